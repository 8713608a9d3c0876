import Derived.Test.YtaecmkldkljioaaQM36b
set_option linter.all false
namespace Go.Proofs.Ytaecmkldkljioaa.M
open Go.RowKit Go.Proofs.Ytaecmkldkljioaa.RX
set_option maxRecDepth 100000
def view_Find_l1 (n:Nat) (v1:Int) (v8:List (S_api_Container)) (v9:Int):Nat → Int → S_api_Container → Option (Sum (S_api_Container) (Bool × S_api_Container))
 | 0,_,_=>none
 | k + 1,v10,b4=>if (decide (v10 < v9)) = true then (if (decide (0 ≤ v10 ∧ v10 < (List.length v8:Int))) = true then (if ((((v8)[Int.toNat v10]?.getD Z_api_Container).f_Id) == v1) = true then (some (.inr (true,((v8)[Int.toNat v10]?.getD Z_api_Container))))
 else (view_Find_l1 n v1 v8 v9 k (IntKind.wrap .i64 (v10 + 1)) b4)) else none)
 else (some (.inl b4))
theorem ok_view_Find_l1 (n:Nat) (v1:Int) (v8:List (S_api_Container)) (v9:Int) {F0:Fz} {w0:Pt Try.prog} {Q:Exit → Act → World → Prop} (k:Nat):∀ (v10:Int) (b4:S_api_Container) (o:Sum (S_api_Container) (Bool × S_api_Container)),view_Find_l1 n v1 v8 v9 k v10 b4 = some o → (Sum.elim (fun s=>To 21 F0 w0 [(4,.own 4 0)] [(4,49,qc5 s)] (.exit 0) Q) (fun s=>To 21 F0 w0 [(4,.own 4 0),(5,vb s.1)] [(4,49,qc5 s.2)] .ret Q)) o → WL Try.prog 21 F0 w0 [(1,vi v1),(4,.own 4 0),(8,rs2 v8),(9,vi v9),(10,vi v10)] [(4,49,(E_api_Container b4))] (cI (cI (cB (cA (cB (cF Try.f13)))))) Q:=by
 induction k with
 | zero=>intro v10 b4 o h; cases h
 | succ k ih =>
  intro v10 b4 o h hQ
  rw [view_Find_l1] at h
  refine WL.round (Wp.seq (rg [1,4,8,9,10,11] [4] [(1,vi v1),(4,.own 4 0),(8,rs2 v8),(9,vi v9),(10,vi v10),(11,vb (decide (v10 < v9)))] [(4,49,(E_api_Container b4))] (To.thenN (Wp.seq (cn h (fun h=>?_) (fun h=>?_))))))
  ·refine Wp.skip (To.thenN (Wp.seq (Wp.block (Wp.seq ?_))))
   obtain ⟨hc1,h⟩:=chk_of h
   refine r0 [1,4,7,8,9,10] [4,7] [(1,vi v1),(4,.own 4 0),(7,.own 7 0),(8,rs2 v8),(9,vi v9),(10,vi v10)] [(4,49,(E_api_Container b4)),(ex28 v8 v10)] (AllP.cons hc1 AllP.nil) (To.thenN (Wp.seq (rg [1,4,7,8,9,10,17] [4,7] [(1,vi v1),(4,.own 4 0),(7,.own 7 0),(8,rs2 v8),(9,vi v9),(10,vi v10),(17,vb (((ex5 v8 v10).f_Id) == v1))] [(4,49,(E_api_Container b4)),(ex28 v8 v10)] (To.thenN (cn h (fun h=>?_) (fun h=>?_))))))
   ·refine Wp.seq (rg [4,5] [4] [(4,.own 4 0),(5,vb true)] [(4,49,(E_api_Container (ex5 v8 v10)))] (To.thenN (Wp.ret (To.blockR (To.thenR (To.thenR ?_))))))
    cases h
    exact hQ
   ·refine Wp.skip (To.blockN (To.thenN (rg [1,4,8,9,10] [4] [(1,vi v1),(4,.own 4 0),(8,rs2 v8),(9,vi v9),(ex7 v10)] [(4,49,(E_api_Container b4))] (kt [1,4,8,9,10] [4] [(1,vi v1),(4,.own 4 0),(8,rs2 v8),(9,vi v9),(ex7 v10)] [(4,49,(E_api_Container b4))] (To.again ?_)))))
    exact ih (IntKind.wrap .i64 (v10 + 1)) b4 _ h hQ
  ·refine Wp.exit (To.thenX (To.thenX (kt [4] [4] [(4,.own 4 0)] [(4,49,(E_api_Container b4))] ?_)))
   cases h
   exact hQ
def view_Find (n:Nat) (a0:List (S_api_Container)) (a1:Int):Option (S_api_Container × Bool) :=
 (view_Find_l1 n a1 a0 (List.length a0:Int) n 0 (S_api_Container.mk 0 (S_api_Spec.mk [] [] [] 0 [] [] [] (S_api_Check.mk [] 0 0 0) 0 0) 0 0 0 0)).bind fun o1 =>
 (Sum.elim (fun o1=>some ((S_api_Container.mk 0 (S_api_Spec.mk [] [] [] 0 [] [] [] (S_api_Check.mk [] 0 0 0) 0 0) 0 0 0 0),false)) (fun o1=>some (o1.2,o1.1))) o1
theorem ok_view_Find (n:Nat) (a0:List (S_api_Container)) (a1:Int) (r:S_api_Container × Bool) (h:view_Find n a0 a1 = some r):CallsX Try.prog 13 [rs2 a0,vi a1] (.tup [.agg (qc5 r.1),vb r.2]):=by
 unfold view_Find at h
 refine xo Try.f13 rfl fun F0 w0 _=>?_
 refine Wp.seq (rg [0,1,4] [4] [(0,rs2 a0),(1,vi a1),(4,.own 4 0)] [(4,49,[vi 0,.str [],.str [],.str [],vi 0,.str [],.val (.slice none 0 0),.val (.slice none 0 0),.str [],vi 0,vi 0,vi 0,vi 0,vi 0,vi 0,vi 0,vi 0,vi 0])] (To.thenN (Wp.seq (Wp.seq (rg [1,4,8,9,10] [4] [(1,vi a1),(4,.own 4 0),(8,rs2 a0),(ex8 a0),(10,vi 0)] [(4,49,[vi 0,.str [],.str [],.str [],vi 0,.str [],.val (.slice none 0 0),.val (.slice none 0 0),.str [],vi 0,vi 0,vi 0,vi 0,vi 0,vi 0,vi 0,vi 0,vi 0])] (To.thenN (Wp.block ?_)))))))
 obtain ⟨o1,ho1,h⟩:=bind_of h
 refine kw [1,4,8,9,10] [4] [(1,vi a1),(4,.own 4 0),(8,rs2 a0),(ex8 a0),(10,vi 0)] [(4,49,[vi 0,.str [],.str [],.str [],vi 0,.str [],.val (.slice none 0 0),.val (.slice none 0 0),.str [],vi 0,vi 0,vi 0,vi 0,vi 0,vi 0,vi 0,vi 0,vi 0])] (Wp.weak (K':=[(1,vi a1),(4,.own 4 0),(8,rs2 a0),(ex8 a0),(10,vi 0)]) (L':=[(4,49,[vi 0,.str [],.str [],.str [],vi 0,.str [],ls [],ls [],.str [],vi 0,vi 0,vi 0,vi 0,vi 0,vi 0,vi 0,vi 0,vi 0])]) (.cons (.refl _) (.cons (.refl _) (.cons (.refl _) (.cons (.refl _) (.cons (.refl _) .nil))))) (.cons (.cons (.refl _) (.cons (.refl _) (.cons (.refl _) (.cons (.refl _) (.cons (.refl _) (.cons (.refl _) (.cons (.zero _ _) (.cons (.zero _ _) (.cons (.refl _) (.cons (.refl _) (.cons (.refl _) (.cons (.refl _) (.cons (.refl _) (.cons (.refl _) (.cons (.refl _) (.cons (.refl _) (.cons (.refl _) (.cons (.refl _) .nil)))))))))))))))))) .nil) (Wp.loopL (ok_view_Find_l1 n a1 a0 (List.length a0:Int) n 0 (S_api_Container.mk 0 (S_api_Spec.mk [] [] [] 0 [] [] [] zx20 0 0) 0 0 0 0) o1 ho1 ?_)))
 rcases o1 with o1 | o1
 ·replace h:=sum_l h
  refine To.blockX (To.thenN (Wp.seq (rg [4,5] [4] [(4,.own 4 0),(5,vb false)] [(4,49,[vi 0,.str [],.str [],.str [],vi 0,.str [],.val (.slice none 0 0),.val (.slice none 0 0),.str [],vi 0,vi 0,vi 0,vi 0,vi 0,vi 0,vi 0,vi 0,vi 0])] (To.thenN (Wp.ret (To.weak (K':=[(4,.own 4 0),(5,vb false)]) (L':=[(4,49,[vi 0,.str [],.str [],.str [],vi 0,.str [],ls [],ls [],.str [],vi 0,vi 0,vi 0,vi 0,vi 0,vi 0,vi 0,vi 0,vi 0])]) (.cons (.refl _) (.cons (.refl _) .nil)) (.cons (.cons (.refl _) (.cons (.refl _) (.cons (.refl _) (.cons (.refl _) (.cons (.refl _) (.cons (.refl _) (.cons (.zero _ _) (.cons (.zero _ _) (.cons (.refl _) (.cons (.refl _) (.cons (.refl _) (.cons (.refl _) (.cons (.refl _) (.cons (.refl _) (.cons (.refl _) (.cons (.refl _) (.cons (.refl _) (.cons (.refl _) .nil)))))))))))))))))) .nil) ?_))))))
  cases h
  exact To.done hΓ (by kernel_rfl)
 ·replace h:=sum_r h
  refine To.blockR (To.thenR ?_)
  cases h
  exact To.done hΓ (by kernel_rfl)
end Go.Proofs.Ytaecmkldkljioaa.M
