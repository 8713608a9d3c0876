import Derived.Test.YtibgdilkodjojaaDoorQM12a
set_option linter.all false
namespace Go.Proofs.YtibgdilkodjojaaDoor.M
open Go.RowKit Go.Proofs.YtibgdilkodjojaaDoor.RX
set_option maxRecDepth 100000
def law12_Few_l1 (n:Nat) (v0:List (S_api_Var)):Nat → Int → Option (Sum (Unit) (Bool))
 | 0,_=>none
 | k + 1,v5=>if (decide (v5 < (List.length v0:Int))) = true then (if (decide (0 ≤ v5 ∧ v5 < (List.length v0:Int))) = true then (if ((!((decide ((List.length (((v0)[Int.toNat v5]?.getD (S_api_Var.mk [] [])).f_Key):Int) > 100)) == false) || decide (0 ≤ v5 ∧ v5 < (List.length v0:Int)))) = true then (lett ((bif (decide ((List.length (((v0)[Int.toNat v5]?.getD (S_api_Var.mk [] [])).f_Key):Int) > 100)) then true else (decide ((List.length (((v0)[Int.toNat v5]?.getD (S_api_Var.mk [] [])).f_Val):Int) > 100))):Bool) fun x1 =>
 if x1 = true then (some (.inr false))
 else (law12_Few_l1 n v0 k (IntKind.wrap .i64 (v5 + 1)))) else none) else none)
 else (some (.inl ()))
theorem ok_law12_Few_l1 (n:Nat) (v0:List (S_api_Var)) {F0:Fz} {w0:Pt Tryd.prog} {Q:Exit → Act → World → Prop} (k:Nat):∀ (v5:Int) (o:Sum (Unit) (Bool)),law12_Few_l1 n v0 k v5 = some o → (Sum.elim (fun s=>To 32 F0 w0 [] [] (.exit 0) Q) (fun s=>To 32 F0 w0 [(4,vb s)] [] .ret Q)) o → WL Tryd.prog 32 F0 w0 [(0,rs4 v0),(5,vi v5)] [] (cI (cI (cB (cA (cB (cB (cF Tryd.f7))))))) Q:=by
 induction k with
 | zero=>intro v5 o h; cases h
 | succ k ih =>
  intro v5 o h hQ
  rw [law12_Few_l1] at h
  refine WL.round (Wp.seq (Wp.seq (rg [0,5,13] [] [(0,rs4 v0),(5,vi v5),(13,vb (decide (v5 < (List.length v0:Int))))] [] (To.thenN (cn h (fun h=>?_) (fun h=>?_))))))
  ·refine Wp.skip (To.thenN (Wp.seq (Wp.block (Wp.seq ?_))))
   obtain ⟨hc2,h⟩:=chk_of h
   obtain ⟨hc3,h⟩:=chk_of h
   obtain ⟨x1,hx1,h⟩:=lett_of h
   refine r0 [0,5,31] [] [(0,rs4 v0),(5,vi v5),(31,vb (bif (decide ((List.length ((ex4 v0 v5).f_Key):Int) > 100)) then true else (decide ((List.length ((ex4 v0 v5).f_Val):Int) > 100))))] [] (AllP.cons hc2 (AllP.cons hc3 AllP.nil)) (To.eq (K':=[(0,rs4 v0),(5,vi v5),(31,vb x1)]) (L':=[]) (by cases hx1; rfl) (by cases hx1; rfl) (To.thenN (cn h (fun h=>?_) (fun h=>?_))))
   ·refine Wp.seq (rg [4] [] [(4,vb false)] [] (To.thenN (Wp.ret (To.blockR (To.thenR (To.thenR ?_))))))
    cases h
    exact hQ
   ·refine Wp.skip (To.blockN (To.thenN (rg [0,5] [] [(0,rs4 v0),(5,vi (IntKind.wrap .i64 (v5 + 1)))] [] (kt [0,5] [] [(0,rs4 v0),(5,vi (IntKind.wrap .i64 (v5 + 1)))] [] (To.again ?_)))))
    exact ih (IntKind.wrap .i64 (v5 + 1)) _ h hQ
  ·refine Wp.exit (To.thenX (To.thenX (kt [] [] [] [] ?_)))
   cases h
   exact hQ
def law12_Few (n:Nat) (a0:List (S_api_Var)) (a1:Int):Option (Bool) :=
 if (decide ((List.length a0:Int) > a1)) = true then some false
 else ((law12_Few_l1 n a0 n 0).bind fun o1 =>
 (Sum.elim (fun o1=>some true) (fun o1=>some o1)) o1)
theorem ok_law12_Few (n:Nat) (a0:List (S_api_Var)) (a1:Int) (r:Bool) (h:law12_Few n a0 a1 = some r):CallsX Tryd.prog 7 [rs4 a0,vi a1] (vb r):=by
 unfold law12_Few at h
 refine xo Tryd.f7 rfl fun F0 w0 _=>?_
 refine Wp.seq (rg [0,1] [] [(0,rs4 a0),(1,vi a1)] [] (To.thenN (Wp.seq (Wp.seq (rg [0,9] [] [(0,rs4 a0),(9,vb (decide ((List.length a0:Int) > a1)))] [] (To.thenN (cn h (fun h=>?_) (fun h=>?_))))))))
 ·refine Wp.seq (rg [4] [] [(4,vb false)] [] (To.thenN (Wp.ret (To.thenR ?_))))
  cases h
  exact To.done hΓ (by kernel_rfl)
 ·refine Wp.skip (To.thenN (Wp.seq (Wp.seq (rg [0,5] [] [(0,rs4 a0),(5,vi 0)] [] (To.thenN (Wp.block ?_))))))
  obtain ⟨o1,ho1,h⟩:=bind_of h
  refine kw [0,5] [] [(0,rs4 a0),(5,vi 0)] [] (Wp.loopL (ok_law12_Few_l1 n a0 n 0 o1 ho1 ?_))
  rcases o1 with o1 | o1
  ·replace h:=sum_l h
   refine To.blockX (To.thenN (Wp.seq (rg [4] [] [(4,vb true)] [] (To.thenN (Wp.ret ?_)))))
   cases h
   exact To.done hΓ (by kernel_rfl)
  ·replace h:=sum_r h
   refine To.blockR (To.thenR ?_)
   cases h
   exact To.done hΓ (by kernel_rfl)
def env_Of_j2 (n:Nat) (v8:List (S_api_Var)) (v9:Int) (v10:Int) (b7:List (MK × S_env_entry)):Option ((List (MK × S_env_entry))) :=
 if (decide (0 ≤ v10 ∧ v10 < (List.length v8:Int))) = true then ((name_Variable n (((v8)[Int.toNat v10]?.getD (S_api_Var.mk [] [])).f_Key)).bind fun r1 =>
 if r1 = true then (some (mput b7 (.inl (((v8)[Int.toNat v10]?.getD (S_api_Var.mk [] [])).f_Key)) (S_env_entry.mk (((v8)[Int.toNat v10]?.getD (S_api_Var.mk [] [])).f_Val))))
 else some b7) else none
theorem ok_env_Of_j2 (n:Nat) (v8:List (S_api_Var)) (v9:Int) (v10:Int) (b7:List (MK × S_env_entry)) (o:(List (MK × S_env_entry))) (h:env_Of_j2 n v8 v9 v10 b7 = some o) {F0:Fz} {w0:Pt Tryd.prog} {Q:Exit → Act → World → Prop} (hQ:To 31 F0 w0 [(3,.mp 7),(8,rs4 v8),(9,vi v9),(10,vi v10)] [(7,82,[.mapc none true (α:=S_env_entry) zx2 E_env_entry o])] .normal Q):Wp Tryd.prog 31 F0 w0 [(3,.mp 7),(8,rs4 v8),(9,vi v9),(10,vi v10)] [(7,82,[.mapc none true (α:=S_env_entry) zx2 E_env_entry b7])] (cA (cB (cB (cI (cI (cB (cA (cB (cB (cF Tryd.f22)))))))))) Q:=by
 unfold env_Of_j2 at h
 refine Wp.block (Wp.seq ?_)
 obtain ⟨hc2,h⟩:=chk_of h
 refine r0 [3,5,8,9,10] [5,7] [(3,.mp 7),(5,.own 5 0),(8,rs4 v8),(9,vi v9),(10,vi v10)] [(5,43,[.str ((ex4 v8 v10).f_Key),.str ((ex4 v8 v10).f_Val)]),(7,82,[.mapc none true (α:=S_env_entry) zx2 E_env_entry b7])] (AllP.cons hc2 AllP.nil) (To.thenN (Wp.seq ?_))
 obtain ⟨r1,hr1,h⟩:=bind_of h
 refine rc [] 2 [3,5,8,9,10,16] [5,7] [(3,.mp 7),(5,.own 5 0),(8,rs4 v8),(9,vi v9),(10,vi v10),(16,vb r1)] [(5,43,[.str ((ex4 v8 v10).f_Key),.str ((ex4 v8 v10).f_Val)]),(7,82,[.mapc none true (α:=S_env_entry) zx2 E_env_entry b7])] (ok_name_Variable n ((ex4 v8 v10).f_Key) _ hr1) (To.thenN (cn h (fun h=>?_) (fun h=>?_)))
 ·refine rr [] [(6,.mapc none true (α:=S_env_entry) zx2 E_env_entry (mput b7 (.inl ((ex4 v8 v10).f_Key)) (S_env_entry.mk ((ex4 v8 v10).f_Val))))] [] [3,8,9,10] [7] [(3,.mp 7),(8,rs4 v8),(9,vi v9),(10,vi v10)] [(7,82,[.mapc none true (α:=S_env_entry) zx2 E_env_entry (mput b7 (.inl ((ex4 v8 v10).f_Key)) (S_env_entry.mk ((ex4 v8 v10).f_Val)))])] [(∃ l':List (MK × S_env_entry),(.mapc none true (α:=S_env_entry) zx2 E_env_entry (mput b7 (.inl ((ex4 v8 v10).f_Key)) (S_env_entry.mk ((ex4 v8 v10).f_Val))):D) = .mapc none true (α:=S_env_entry) zx2 E_env_entry l' ∧ MsetOb E_env_entry b7 (.inl ((ex4 v8 v10).f_Key)) [.str ((ex4 v8 v10).f_Val)] l')] (AllP.cons (⟨_,rfl,(S_env_entry.mk ((ex4 v8 v10).f_Val)),Weaks.of_eq (by kernel_rfl),rfl⟩) AllP.nil) (To.blockN ?_)
  cases h
  exact hQ
 ·refine Wp.skip (To.blockN (kt [3,8,9,10] [7] [(3,.mp 7),(8,rs4 v8),(9,vi v9),(10,vi v10)] [(7,82,[.mapc none true (α:=S_env_entry) zx2 E_env_entry b7])] ?_))
  cases h
  exact hQ
def env_Of_l1 (n:Nat) (v8:List (S_api_Var)) (v9:Int):Nat → Int → (List (MK × S_env_entry)) → Option ((List (MK × S_env_entry)))
 | 0,_,_=>none
 | k + 1,v10,b7=>if (decide (v10 < v9)) = true then ((env_Of_j2 n v8 v9 v10 b7).bind fun o1 =>
 env_Of_l1 n v8 v9 k (IntKind.wrap .i64 (v10 + 1)) o1)
 else some b7
theorem ok_env_Of_l1 (n:Nat) (v8:List (S_api_Var)) (v9:Int) {F0:Fz} {w0:Pt Tryd.prog} {Q:Exit → Act → World → Prop} (k:Nat):∀ (v10:Int) (b7:List (MK × S_env_entry)) (o:(List (MK × S_env_entry))),env_Of_l1 n v8 v9 k v10 b7 = some o → To 31 F0 w0 [(3,.mp 7)] [(7,82,[.mapc none true (α:=S_env_entry) zx2 E_env_entry o])] (.exit 0) Q → WL Tryd.prog 31 F0 w0 [(3,.mp 7),(8,rs4 v8),(9,vi v9),(10,vi v10)] [(7,82,[.mapc none true (α:=S_env_entry) zx2 E_env_entry b7])] (cI (cI (cB (cA (cB (cB (cF Tryd.f22))))))) Q:=by
 induction k with
 | zero=>intro v10 b7 o h; cases h
 | succ k ih =>
  intro v10 b7 o h hQ
  rw [env_Of_l1] at h
  refine WL.round (Wp.seq (rg [3,8,9,10,11] [7] [(3,.mp 7),(8,rs4 v8),(9,vi v9),(10,vi v10),(11,vb (decide (v10 < v9)))] [(7,82,[.mapc none true (α:=S_env_entry) zx2 E_env_entry b7])] (To.thenN (Wp.seq (cn h (fun h=>?_) (fun h=>?_))))))
  ·refine Wp.skip (To.thenN (Wp.seq ?_))
   obtain ⟨o1,ho1,h⟩:=bind_of h
   refine kw [3,8,9,10] [7] [(3,.mp 7),(8,rs4 v8),(9,vi v9),(10,vi v10)] [(7,82,[.mapc none true (α:=S_env_entry) zx2 E_env_entry b7])] (ok_env_Of_j2 n v8 v9 v10 b7 o1 ho1 (To.thenN (rg [3,8,9,10] [7] [(3,.mp 7),(8,rs4 v8),(9,vi v9),(ex2 v10)] [(7,82,[.mapc none true (α:=S_env_entry) zx2 E_env_entry o1])] (kt [3,8,9,10] [7] [(3,.mp 7),(8,rs4 v8),(9,vi v9),(ex2 v10)] [(7,82,[.mapc none true (α:=S_env_entry) zx2 E_env_entry o1])] (To.again ?_)))))
   exact ih (IntKind.wrap .i64 (v10 + 1)) o1 _ h hQ
  ·refine Wp.exit (To.thenX (To.thenX (kt [3] [7] [(3,.mp 7)] [(7,82,[.mapc none true (α:=S_env_entry) zx2 E_env_entry b7])] ?_)))
   cases h
   exact hQ
def env_Of (n:Nat) (a0:List (S_api_Var)):Option ((List (S_api_Var))) :=
 (env_Of_l1 n a0 (List.length a0:Int) n 0 ([]:List (MK × S_env_entry))).bind fun o1 =>
 (env_told__m0 n o1).bind fun r2 =>
 if (decide (0 ≤ (if (64:Int) < (List.length r2.1:Int) then 64 else (List.length r2.1:Int)) ∧ (if (64:Int) < (List.length r2.1:Int) then 64 else (List.length r2.1:Int)) ≤ (List.length r2.1:Int))) = true then (some (List.take (Int.toNat (if (64:Int) < (List.length r2.1:Int) then 64 else (List.length r2.1:Int))) r2.1)) else none
theorem ok_env_Of (n:Nat) (a0:List (S_api_Var)) (r:(List (S_api_Var))) (h:env_Of n a0 = some r):CallsX Tryd.prog 22 [rs4 a0] (rs4 r):=by
 unfold env_Of at h
 refine xo Tryd.f22 rfl fun F0 w0 _=>?_
 refine Wp.seq (rg [0] [] [(0,rs4 a0)] [] (To.thenN (Wp.seq (rr [] [(0,.mapc none true (α:=S_env_entry) zx2 E_env_entry [])] [] [0,3] [7] [(0,rs4 a0),(3,.mp 7)] [(7,82,[.mapc none true (α:=S_env_entry) zx2 E_env_entry []])] [(GoodM true E_env_entry)] (AllP.cons (⟨fun _=>rfl,fun h=>by cases h⟩) AllP.nil) ?_))))
 refine To.thenN (Wp.seq (Wp.seq (rg [3,8,9,10] [7] [(3,.mp 7),(8,rs4 a0),(9,vi (List.length a0:Int)),(10,vi 0)] [(7,82,[.mapc none true (α:=S_env_entry) zx2 E_env_entry []])] (To.thenN (Wp.block ?_)))))
 obtain ⟨o1,ho1,h⟩:=bind_of h
 refine kw [3,8,9,10] [7] [(3,.mp 7),(8,rs4 a0),(9,vi (List.length a0:Int)),(10,vi 0)] [(7,82,[.mapc none true (α:=S_env_entry) zx2 E_env_entry []])] (Wp.loopL (ok_env_Of_l1 n a0 (List.length a0:Int) n 0 ([]:List (MK × S_env_entry)) o1 ho1 (To.blockX (To.thenN (Wp.seq ?_)))))
 obtain ⟨r2,hr2,h⟩:=bind_of h
 refine rb [] 1 ⟨[(1000000,7)],[(1000000,7)],[.mp 1000000],[(1000000,82,[.mapc none true (α:=S_env_entry) zx2 E_env_entry o1])],rs4 r2.1,[(1000000,82,[.mapc none true (α:=S_env_entry) zx2 E_env_entry r2.2])]⟩ [6] [] [(6,rs4 r2.1)] [] ((ok_env_told__m0 n o1 _ hr2)) (To.thenN (Wp.seq ?_))
 obtain ⟨hc3,h⟩:=chk_of h
 refine r0 [2] [] [(2,rs4 (List.take (Int.toNat (if (64:Int) < (List.length r2.1:Int) then 64 else (List.length r2.1:Int))) r2.1))] [] (AllP.cons hc3 AllP.nil) (To.thenN (Wp.ret ?_))
 cases h
 exact To.done hΓ (by kernel_rfl)
def E_Lapi_Var:List (S_api_Var) → List D:=fun x=>[.recs (α:=S_api_Var) (S_api_Var.mk [] []) E_api_Var x]
theorem grow72 {x:Int} (h:decide (0 ≤ x ∧ x * 33 ≤ (limit:Int)) = true):CallsB Tryd.prog 72 [.val (.slice none 0 0),.val (.int .i64 x)] [] (.row 1) [(1,43,[.rowc false (α:=S_api_Var) (S_api_Var.mk [] []) E_api_Var []])]:=callsB_growI (size:=2) (bytes:=32) ⟨Tryd.f72,by kernel_rfl,by kernel_rfl,by kernel_rfl⟩ (good_E_api_Var []) (by kernel_rfl) (by kernel_rfl)
 (fun w=>Any8.slices_Grow_room Tryd.laysG72 none 0 0 0 w (by decide) (by decide) (by decide) (by decide))
 (fun i z hi hz hs n w h1 h2 h3=>by
  have h:=Any8.slices_Grow_grow Tryd.laysG72 i z hi hz hs none 0 0 n [] w (Nat.le_refl _) (by omega) (by simpa using h2) (by simpa using h3) (by simp) (fun _=>rfl) (fun a h=>by cases h)
  simp only [Nat.zero_add,Nat.sub_zero] at h
  exact h) h
def slices_Concat_api_Var_api_Var_j2 (n:Nat) (v0:List (List (S_api_Var))) (v3:Int) (v9:List (List (S_api_Var))) (v10:Int) (v11:Int):Option (Int) :=
 if (decide (0 ≤ v11 ∧ v11 < (List.length v9:Int))) = true then (if (decide ((IntKind.wrap .i64 (v3 + (List.length ((v9)[Int.toNat v11]?.getD []):Int))) < 0)) = true then none
 else (some (IntKind.wrap .i64 (v3 + (List.length ((v9)[Int.toNat v11]?.getD []):Int))))) else none
abbrev rs7 (l:List (List (S_api_Var))):D:=.recs (α:=List (S_api_Var)) [] E_Lapi_Var l
abbrev ex6 (x0:List (List (S_api_Var))) (x1:Int):=((x0)[Int.toNat x1]?.getD [])
abbrev ex14 (x0:Int) (x1:List (List (S_api_Var))) (x2:Int):=(IntKind.wrap .i64 (x0 + (List.length (ex6 x1 x2):Int)))
theorem ok_slices_Concat_api_Var_api_Var_j2 (n:Nat) (v0:List (List (S_api_Var))) (v3:Int) (v9:List (List (S_api_Var))) (v10:Int) (v11:Int) (o:Int) (h:slices_Concat_api_Var_api_Var_j2 n v0 v3 v9 v10 v11 = some o) {F0:Fz} {w0:Pt Tryd.prog} {Q:Exit → Act → World → Prop} (hQ:To 36 F0 w0 [(0,rs7 v0),(3,vi o),(9,rs7 v9),(10,vi v10),(11,vi v11)] [] .normal Q):Wp Tryd.prog 36 F0 w0 [(0,rs7 v0),(3,vi v3),(9,rs7 v9),(10,vi v10),(11,vi v11)] [] (cA (cB (cB (cI (cI (cB (cA (cB (cB (cF Tryd.f41)))))))))) Q:=by
 unfold slices_Concat_api_Var_api_Var_j2 at h
 refine Wp.block (Wp.seq ?_)
 obtain ⟨hc1,h⟩:=chk_of h
 refine r0 [0,3,5,9,10,11] [] [(0,rs7 v0),(3,vi v3),(5,rs4 (ex6 v9 v11)),(9,rs7 v9),(10,vi v10),(11,vi v11)] [] (AllP.cons hc1 AllP.nil) (To.thenN (Wp.seq (rg [0,3,9,10,11] [] [(0,rs7 v0),(3,vi (ex14 v3 v9 v11)),(9,rs7 v9),(10,vi v10),(11,vi v11)] [] (To.thenN (Wp.seq (rg [0,3,9,10,11,20] [] [(0,rs7 v0),(3,vi (ex14 v3 v9 v11)),(9,rs7 v9),(10,vi v10),(11,vi v11),(20,vb (decide ((ex14 v3 v9 v11) < 0)))] [] (To.thenN (cn h (fun h=>?_) (fun h=>?_)))))))))
 ·cases h
 ·refine Wp.skip (To.blockN (kt [0,3,9,10,11] [] [(0,rs7 v0),(3,vi (ex14 v3 v9 v11)),(9,rs7 v9),(10,vi v10),(11,vi v11)] [] ?_))
  cases h
  exact hQ
def slices_Concat_api_Var_api_Var_l1 (n:Nat) (v0:List (List (S_api_Var))) (v9:List (List (S_api_Var))) (v10:Int):Nat → Int → Int → Option (Int)
 | 0,_,_=>none
 | k + 1,v3,v11=>if (decide (v11 < v10)) = true then ((slices_Concat_api_Var_api_Var_j2 n v0 v3 v9 v10 v11).bind fun o1 =>
 slices_Concat_api_Var_api_Var_l1 n v0 v9 v10 k o1 (IntKind.wrap .i64 (v11 + 1)))
 else some v3
theorem ok_slices_Concat_api_Var_api_Var_l1 (n:Nat) (v0:List (List (S_api_Var))) (v9:List (List (S_api_Var))) (v10:Int) {F0:Fz} {w0:Pt Tryd.prog} {Q:Exit → Act → World → Prop} (k:Nat):∀ (v3:Int) (v11:Int) (o:Int),slices_Concat_api_Var_api_Var_l1 n v0 v9 v10 k v3 v11 = some o → To 36 F0 w0 [(0,rs7 v0),(3,vi o)] [] (.exit 0) Q → WL Tryd.prog 36 F0 w0 [(0,rs7 v0),(3,vi v3),(9,rs7 v9),(10,vi v10),(11,vi v11)] [] (cI (cI (cB (cA (cB (cB (cF Tryd.f41))))))) Q:=by
 induction k with
 | zero=>intro v3 v11 o h; cases h
 | succ k ih =>
  intro v3 v11 o h hQ
  rw [slices_Concat_api_Var_api_Var_l1] at h
  refine WL.round (Wp.seq (rg [0,3,9,10,11,12] [] [(0,rs7 v0),(3,vi v3),(9,rs7 v9),(10,vi v10),(11,vi v11),(12,vb (decide (v11 < v10)))] [] (To.thenN (Wp.seq (cn h (fun h=>?_) (fun h=>?_))))))
  ·refine Wp.skip (To.thenN (Wp.seq ?_))
   obtain ⟨o1,ho1,h⟩:=bind_of h
   refine kw [0,3,9,10,11] [] [(0,rs7 v0),(3,vi v3),(9,rs7 v9),(10,vi v10),(11,vi v11)] [] (ok_slices_Concat_api_Var_api_Var_j2 n v0 v3 v9 v10 v11 o1 ho1 (To.thenN (rg [0,3,9,10,11] [] [(0,rs7 v0),(3,vi o1),(9,rs7 v9),(10,vi v10),(11,vi (IntKind.wrap .i64 (v11 + 1)))] [] (kt [0,3,9,10,11] [] [(0,rs7 v0),(3,vi o1),(9,rs7 v9),(10,vi v10),(11,vi (IntKind.wrap .i64 (v11 + 1)))] [] (To.again ?_)))))
   exact ih o1 (IntKind.wrap .i64 (v11 + 1)) _ h hQ
  ·refine Wp.exit (To.thenX (To.thenX (kt [0,3] [] [(0,rs7 v0),(3,vi v3)] [] ?_)))
   cases h
   exact hQ
def slices_Concat_api_Var_api_Var_l3 (n:Nat) (v25:List (List (S_api_Var))) (v26:Int):Nat → (List (S_api_Var)) → Int → Option ((List (S_api_Var)))
 | 0,_,_=>none
 | k + 1,v6,v27=>if (decide (v27 < v26)) = true then (if (decide (0 ≤ v27 ∧ v27 < (List.length v25:Int))) = true then (if (decide ((List.length v6 + List.length ((v25)[Int.toNat v27]?.getD [])) * (32 + 1) ≤ limit)) = true then (slices_Concat_api_Var_api_Var_l3 n v25 v26 k (v6 ++ ((v25)[Int.toNat v27]?.getD [])) (IntKind.wrap .i64 (v27 + 1))) else none) else none)
 else some v6
theorem ok_slices_Concat_api_Var_api_Var_l3 (n:Nat) (v25:List (List (S_api_Var))) (v26:Int) {F0:Fz} {w0:Pt Tryd.prog} {Q:Exit → Act → World → Prop} (k:Nat):∀ (v6:List (S_api_Var)) (v27:Int) (o:(List (S_api_Var))),slices_Concat_api_Var_api_Var_l3 n v25 v26 k v6 v27 = some o → To 36 F0 w0 [(6,.row 1006)] [(1006,43,[rc3 o])] (.exit 2) Q → WL Tryd.prog 36 F0 w0 [(6,.row 1006),(25,rs7 v25),(26,vi v26),(27,vi v27)] [(1006,43,[rc3 v6])] (cI (cI (cB (cA (cB (cB (cB (cB (cF Tryd.f41))))))))) Q:=by
 induction k with
 | zero=>intro v6 v27 o h; cases h
 | succ k ih =>
  intro v6 v27 o h hQ
  rw [slices_Concat_api_Var_api_Var_l3] at h
  refine WL.round (Wp.seq (rg [6,25,26,27,28] [1006] [(6,.row 1006),(25,rs7 v25),(26,vi v26),(27,vi v27),(28,vb (decide (v27 < v26)))] [(1006,43,[rc3 v6])] (To.thenN (Wp.seq (cn h (fun h=>?_) (fun h=>?_))))))
  ·refine Wp.skip (To.thenN (Wp.seq (Wp.block (Wp.seq ?_))))
   obtain ⟨hc4,h⟩:=chk_of h
   refine r0 [6,8,25,26,27] [1006] [(6,.row 1006),(8,rs4 (ex6 v25 v27)),(25,rs7 v25),(26,vi v26),(27,vi v27)] [(1006,43,[rc3 v6])] (AllP.cons hc4 AllP.nil) (To.thenN ?_)
   obtain ⟨hc3,h⟩:=chk_of h
   refine rr [] [(2,rs4 (v6 ++ (ex6 v25 v27)))] [] [6,25,26,27] [33] [(6,.row 33),(25,rs7 v25),(26,vi v26),(27,vi v27)] [(33,43,[rc3 (v6 ++ (ex6 v25 v27))])] [_,(AppOb zx1 E_api_Var v6 (List.flatMap E_api_Var (ex6 v25 v27)) (List.length (ex6 v25 v27)) (rs4 (v6 ++ (ex6 v25 v27))) ∧ GoodR (rs4 (v6 ++ (ex6 v25 v27))))] (AllP.cons hc3 (AllP.cons (appOb rfl rfl (good_E_api_Var _)) AllP.nil)) (To.blockN (To.thenN (rg [6,25,26,27] [33] [(6,.row 33),(25,rs7 v25),(26,vi v26),(27,vi (IntKind.wrap .i64 (v27 + 1)))] [(33,43,[rc3 (v6 ++ (ex6 v25 v27))])] (nt [6,25,26,27] [33] [(33,1006)] [6,25,26,27] [1006] [(6,.row 1006),(25,rs7 v25),(26,vi v26),(27,vi (IntKind.wrap .i64 (v27 + 1)))] [(1006,43,[rc3 (v6 ++ (ex6 v25 v27))])] (To.again ?_)))))
   exact ih (v6 ++ (ex6 v25 v27)) (IntKind.wrap .i64 (v27 + 1)) _ h hQ
  ·refine Wp.exit (To.thenX (To.thenX (kt [6] [1006] [(6,.row 1006)] [(1006,43,[rc3 v6])] ?_)))
   cases h
   exact hQ
def slices_Concat_api_Var_api_Var (n:Nat) (a0:List (List (S_api_Var))):Option ((List (S_api_Var))) :=
 (slices_Concat_api_Var_api_Var_l1 n a0 a0 (List.length a0:Int) n 0 0).bind fun o1 =>
 if (decide (0 ≤ o1 ∧ o1 * 33 ≤ (limit:Int))) = true then ((slices_Concat_api_Var_api_Var_l3 n a0 (List.length a0:Int) n ([]:List (S_api_Var)) 0).bind fun o3 =>
 some o3) else none
theorem ok_slices_Concat_api_Var_api_Var (n:Nat) (a0:List (List (S_api_Var))) (r:(List (S_api_Var))) (h:slices_Concat_api_Var_api_Var n a0 = some r):CallsX Tryd.prog 41 [rs7 a0] (rs4 r):=by
 unfold slices_Concat_api_Var_api_Var at h
 refine xo Tryd.f41 rfl fun F0 w0 _=>?_
 refine Wp.seq (rg [0] [] [(0,rs7 a0)] [] (To.thenN (Wp.seq (rg [0,3] [] [(0,rs7 a0),(3,vi 0)] [] (To.thenN (Wp.seq (Wp.seq (rg [0,3,9,10,11] [] [(0,rs7 a0),(3,vi 0),(9,rs7 a0),(10,vi (List.length a0:Int)),(11,vi 0)] [] (To.thenN (Wp.block ?_))))))))))
 obtain ⟨o1,ho1,h⟩:=bind_of h
 refine kw [0,3,9,10,11] [] [(0,rs7 a0),(3,vi 0),(9,rs7 a0),(10,vi (List.length a0:Int)),(11,vi 0)] [] (Wp.loopL (ok_slices_Concat_api_Var_api_Var_l1 n a0 a0 (List.length a0:Int) n 0 0 o1 ho1 (To.blockX (To.thenN (Wp.seq ?_)))))
 obtain ⟨u2,h⟩:=chk_of h
 refine rb [] 1 ⟨[],[(1,24)],[.val (.slice none 0 0),vi o1],[],.row 1,[(1,43,[rc3 []])]⟩ [0,6] [24] [(0,rs7 a0),(6,.row 24)] [(24,43,[rc3 []])] (grow72 u2) (To.thenN (Wp.seq (Wp.seq (rg [6,25,26,27] [24] [(6,.row 24),(25,rs7 a0),(26,vi (List.length a0:Int)),(27,vi 0)] [(24,43,[rc3 []])] (To.thenN (Wp.block ?_))))))
 obtain ⟨o3,ho3,h⟩:=bind_of h
 refine nw [6,25,26,27] [24] [(24,1006)] [6,25,26,27] [1006] [(6,.row 1006),(25,rs7 a0),(26,vi (List.length a0:Int)),(27,vi 0)] [(1006,43,[rc3 []])] (Wp.loopL (ok_slices_Concat_api_Var_api_Var_l3 n a0 (List.length a0:Int) n ([]:List (S_api_Var)) 0 o3 ho3 (To.blockX (To.thenN (Wp.seq (rg [2] [1006] [(2,.row 1006)] [(1006,43,[rc3 o3])] (To.thenN (Wp.ret (To.pre (St.settle (ks:=[1006]) (kk:=[2]) (kl:=[1006]) (K':=[(2,.row 1006)]) (L':=[(1006,43,[rc5 o3])]) (by kernel_rfl)) (To.pre (St.sealK [2] (K':=[(2,rs4 o3)]) (by kernel_rfl)) ?_))))))))))
 cases h
 exact To.done hΓ (by kernel_rfl)
theorem good_E_Lapi_Var (l:List (List (S_api_Var))):GoodR (.recs [] E_Lapi_Var l):=⟨Nat.le_of_ble_eq_true (by kernel_rfl),fun _=>⟨rfl,rfl⟩⟩
def env_Over (n:Nat) (a0:List (S_api_Var)) (a1:List (S_api_Var)):Option ((List (S_api_Var))) :=
 (slices_Concat_api_Var_api_Var n [a0,a1]).bind fun r1 =>
 (env_Of n r1).bind fun r2 =>
 some r2
theorem ok_env_Over (n:Nat) (a0:List (S_api_Var)) (a1:List (S_api_Var)) (r:(List (S_api_Var))) (h:env_Over n a0 a1 = some r):CallsX Tryd.prog 23 [rs4 a0,rs4 a1] (rs4 r):=by
 unfold env_Over at h
 refine xo Tryd.f23 rfl fun F0 w0 _=>?_
 refine Wp.seq (rg [0,1] [] [(0,rs4 a0),(1,rs4 a1)] [] (To.thenN (Wp.seq ?_)))
 obtain ⟨r1,hr1,h⟩:=bind_of h
 obtain ⟨r2,hr2,h⟩:=bind_of h
 refine rr [(3,[7])] [(2,rs7 [a0,a1]),(3,rs4 r1),(4,rs4 r2)] [] [4] [] [(4,rs4 r2)] [] [(MkOb 1 [rs4 a0,rs4 a1] 2 (rs7 [a0,a1]) ∧ GoodR (rs7 [a0,a1])),_,_] (AllP.cons (mkOb (by kernel_rfl) rfl (by kernel_rfl) (good_E_Lapi_Var _)) (AllP.cons (c1 (ok_slices_Concat_api_Var_api_Var n [a0,a1] _ hr1)) (AllP.cons (c1 (ok_env_Of n r1 _ hr2)) AllP.nil))) (To.thenN (Wp.ret ?_))
 cases h
 exact To.done hΓ (by kernel_rfl)
def env_Get_l1 (n:Nat) (v1:List UInt8) (v8:List (S_api_Var)) (v9:Int):Nat → Int → Option (Sum (Unit) ((List UInt8) × Bool))
 | 0,_=>none
 | k + 1,v10=>if (decide (v10 < v9)) = true then (if (decide (0 ≤ v10 ∧ v10 < (List.length v8:Int))) = true then (if ((((v8)[Int.toNat v10]?.getD (S_api_Var.mk [] [])).f_Key) == v1) = true then (some (.inr (((v8)[Int.toNat v10]?.getD (S_api_Var.mk [] [])).f_Val,true)))
 else (env_Get_l1 n v1 v8 v9 k (IntKind.wrap .i64 (v10 + 1)))) else none)
 else (some (.inl ()))
theorem ok_env_Get_l1 (n:Nat) (v1:List UInt8) (v8:List (S_api_Var)) (v9:Int) {F0:Fz} {w0:Pt Tryd.prog} {Q:Exit → Act → World → Prop} (k:Nat):∀ (v10:Int) (o:Sum (Unit) ((List UInt8) × Bool)),env_Get_l1 n v1 v8 v9 k v10 = some o → (Sum.elim (fun s=>To 21 F0 w0 [] [] (.exit 0) Q) (fun s=>To 21 F0 w0 [(4,.str s.1),(5,vb s.2)] [] .ret Q)) o → WL Tryd.prog 21 F0 w0 [(1,.str v1),(8,rs4 v8),(9,vi v9),(10,vi v10)] [] (cI (cI (cB (cA (cB (cF Tryd.f24)))))) Q:=by
 induction k with
 | zero=>intro v10 o h; cases h
 | succ k ih =>
  intro v10 o h hQ
  rw [env_Get_l1] at h
  refine WL.round (Wp.seq (rg [1,8,9,10,11] [] [(1,.str v1),(8,rs4 v8),(9,vi v9),(10,vi v10),(11,vb (decide (v10 < v9)))] [] (To.thenN (Wp.seq (cn h (fun h=>?_) (fun h=>?_))))))
  ·refine Wp.skip (To.thenN (Wp.seq (Wp.block (Wp.seq ?_))))
   obtain ⟨hc1,h⟩:=chk_of h
   refine r0 [1,7,8,9,10] [7] [(1,.str v1),(7,.own 7 0),(8,rs4 v8),(9,vi v9),(10,vi v10)] [(7,43,[.str ((ex4 v8 v10).f_Key),.str ((ex4 v8 v10).f_Val)])] (AllP.cons hc1 AllP.nil) (To.thenN (Wp.seq (rg [1,7,8,9,10,17] [7] [(1,.str v1),(7,.own 7 0),(8,rs4 v8),(9,vi v9),(10,vi v10),(17,vb (((ex4 v8 v10).f_Key) == v1))] [(7,43,[.str ((ex4 v8 v10).f_Key),.str ((ex4 v8 v10).f_Val)])] (To.thenN (cn h (fun h=>?_) (fun h=>?_))))))
   ·refine Wp.seq (rg [4,5] [] [(4,.str ((ex4 v8 v10).f_Val)),(5,vb true)] [] (To.thenN (Wp.ret (To.blockR (To.thenR (To.thenR ?_))))))
    cases h
    exact hQ
   ·refine Wp.skip (To.blockN (To.thenN (rg [1,8,9,10] [] [(1,.str v1),(8,rs4 v8),(9,vi v9),(ex2 v10)] [] (kt [1,8,9,10] [] [(1,.str v1),(8,rs4 v8),(9,vi v9),(ex2 v10)] [] (To.again ?_)))))
    exact ih (IntKind.wrap .i64 (v10 + 1)) _ h hQ
  ·refine Wp.exit (To.thenX (To.thenX (kt [] [] [] [] ?_)))
   cases h
   exact hQ
def env_Get (n:Nat) (a0:List (S_api_Var)) (a1:List UInt8):Option ((List UInt8) × Bool) :=
 (env_Get_l1 n a1 a0 (List.length a0:Int) n 0).bind fun o1 =>
 (Sum.elim (fun o1=>some ([],false)) (fun o1=>some (o1.1,o1.2))) o1
theorem ok_env_Get (n:Nat) (a0:List (S_api_Var)) (a1:List UInt8) (r:(List UInt8) × Bool) (h:env_Get n a0 a1 = some r):CallsX Tryd.prog 24 [rs4 a0,.str a1] (.tup [.str r.1,vb r.2]):=by
 unfold env_Get at h
 refine xo Tryd.f24 rfl fun F0 w0 _=>?_
 refine Wp.seq (rg [0,1] [] [(0,rs4 a0),(1,.str a1)] [] (To.thenN (Wp.seq (Wp.seq (rg [1,8,9,10] [] [(1,.str a1),(8,rs4 a0),(9,vi (List.length a0:Int)),(10,vi 0)] [] (To.thenN (Wp.block ?_)))))))
 obtain ⟨o1,ho1,h⟩:=bind_of h
 refine kw [1,8,9,10] [] [(1,.str a1),(8,rs4 a0),(9,vi (List.length a0:Int)),(10,vi 0)] [] (Wp.loopL (ok_env_Get_l1 n a1 a0 (List.length a0:Int) n 0 o1 ho1 ?_))
 rcases o1 with o1 | o1
 ·replace h:=sum_l h
  refine To.blockX (To.thenN (Wp.seq (rg [4,5] [] [(4,.str []),(5,vb false)] [] (To.thenN (Wp.ret ?_)))))
  cases h
  exact To.done hΓ (by kernel_rfl)
 ·replace h:=sum_r h
  refine To.blockR (To.thenR ?_)
  cases h
  exact To.done hΓ (by kernel_rfl)
def quote_Double_j2 (n:Nat) (v0:List UInt8) (v3:List (UInt8)) (v13:Int) (v14:Int):Option ((List (UInt8))) :=
 if (decide (0 ≤ v14 ∧ v14 < (List.length v0:Int))) = true then (lett ((bif ((((v0)[Int.toNat v14]?.getD 0).toNat:Int) == 34) then true else ((((v0)[Int.toNat v14]?.getD 0).toNat:Int) == 92)):Bool) fun x1 =>
 if x1 = true then (if (decide ((List.length v3 + List.length ([92,((v0)[Int.toNat v14]?.getD 0)]:List (UInt8))) * (1 + 1) ≤ limit)) = true then (some (v3 ++ ([92,((v0)[Int.toNat v14]?.getD 0)]:List (UInt8)))) else none)
 else (if ((((v0)[Int.toNat v14]?.getD 0).toNat:Int) == 10) = true then (if (decide ((List.length v3 + List.length ([92,110]:List (UInt8))) * (1 + 1) ≤ limit)) = true then (some (v3 ++ ([92,110]:List (UInt8)))) else none)
 else (if ((((v0)[Int.toNat v14]?.getD 0).toNat:Int) == 9) = true then (if (decide ((List.length v3 + List.length ([92,116]:List (UInt8))) * (1 + 1) ≤ limit)) = true then (some (v3 ++ ([92,116]:List (UInt8)))) else none)
 else (if (!(quote_ok (((v0)[Int.toNat v14]?.getD 0).toNat:Int))) = true then (if (decide (0 ≤ (4:Int))) = true then (if (decide (0 ≤ (Int.fdiv (((v0)[Int.toNat v14]?.getD 0).toNat:Int) (2 ^ (min (Int.toNat 4) (IntKind.bits .u8)))) ∧ (Int.fdiv (((v0)[Int.toNat v14]?.getD 0).toNat:Int) (2 ^ (min (Int.toNat 4) (IntKind.bits .u8)))) < (List.length ([48,49,50,51,52,53,54,55,56,57,97,98,99,100,101,102]:List UInt8):Int))) = true then (if (decide (0 ≤ (IntKind.wrap .u8 ((BitVec.ofInt (IntKind.bits .u8) (((v0)[Int.toNat v14]?.getD 0).toNat:Int) &&& BitVec.ofInt (IntKind.bits .u8) 15).toNat)) ∧ (IntKind.wrap .u8 ((BitVec.ofInt (IntKind.bits .u8) (((v0)[Int.toNat v14]?.getD 0).toNat:Int) &&& BitVec.ofInt (IntKind.bits .u8) 15).toNat)) < (List.length ([48,49,50,51,52,53,54,55,56,57,97,98,99,100,101,102]:List UInt8):Int))) = true then (if (decide ((List.length v3 + List.length ([92,120,((([48,49,50,51,52,53,54,55,56,57,97,98,99,100,101,102]:List UInt8))[Int.toNat (Int.fdiv (((v0)[Int.toNat v14]?.getD 0).toNat:Int) (2 ^ (min (Int.toNat 4) (IntKind.bits .u8))))]?.getD 0),((([48,49,50,51,52,53,54,55,56,57,97,98,99,100,101,102]:List UInt8))[Int.toNat (IntKind.wrap .u8 ((BitVec.ofInt (IntKind.bits .u8) (((v0)[Int.toNat v14]?.getD 0).toNat:Int) &&& BitVec.ofInt (IntKind.bits .u8) 15).toNat))]?.getD 0)]:List (UInt8))) * (1 + 1) ≤ limit)) = true then (lett ((v3 ++ ([92,120,((([48,49,50,51,52,53,54,55,56,57,97,98,99,100,101,102]:List UInt8))[Int.toNat (Int.fdiv (((v0)[Int.toNat v14]?.getD 0).toNat:Int) (2 ^ (min (Int.toNat 4) (IntKind.bits .u8))))]?.getD 0),((([48,49,50,51,52,53,54,55,56,57,97,98,99,100,101,102]:List UInt8))[Int.toNat (IntKind.wrap .u8 ((BitVec.ofInt (IntKind.bits .u8) (((v0)[Int.toNat v14]?.getD 0).toNat:Int) &&& BitVec.ofInt (IntKind.bits .u8) 15).toNat))]?.getD 0)]:List (UInt8))):List (UInt8)) fun x5 =>
 some x5) else none) else none) else none) else none)
 else (if (decide ((List.length v3 + List.length ([((v0)[Int.toNat v14]?.getD 0)]:List (UInt8))) * (1 + 1) ≤ limit)) = true then (some (v3 ++ ([((v0)[Int.toNat v14]?.getD 0)]:List (UInt8)))) else none))))) else none
abbrev rc8 (l:List (UInt8)):D:=.rowc false (α:=UInt8) 0 e8 l
abbrev rs9 (l:List (UInt8)):D:=.recs (α:=UInt8) 0 e8 l
abbrev ex7 (x0:List UInt8) (x1:Int):=([92,120,((([48,49,50,51,52,53,54,55,56,57,97,98,99,100,101,102]:List UInt8))[Int.toNat (Int.fdiv (((x0)[Int.toNat x1]?.getD 0).toNat:Int) (2 ^ (min (Int.toNat 4) (IntKind.bits .u8))))]?.getD 0),((([48,49,50,51,52,53,54,55,56,57,97,98,99,100,101,102]:List UInt8))[Int.toNat (IntKind.wrap .u8 ((BitVec.ofInt (IntKind.bits .u8) (((x0)[Int.toNat x1]?.getD 0).toNat:Int) &&& BitVec.ofInt (IntKind.bits .u8) 15).toNat))]?.getD 0)]:List (UInt8))
abbrev ex8 (x0:List UInt8) (x1:Int):=([92,120,((([48,49,50,51,52,53,54,55,56,57,97,98,99,100,101,102]:List UInt8))[Int.toNat (Int.fdiv (((x0)[Int.toNat x1]?.getD 0).toNat:Int) (2 ^ (min (Int.toNat 4) (IntKind.bits .u8))))]?.getD 0),((([48,49,50,51,52,53,54,55,56,57,97,98,99,100,101,102]:List UInt8))[Int.toNat (IntKind.wrap .u8 ((BitVec.ofInt (IntKind.bits .u8) (((x0)[Int.toNat x1]?.getD 0).toNat:Int) &&& BitVec.ofInt (IntKind.bits .u8) 15).toNat))]?.getD 0)])
abbrev ex9 (x0:List UInt8) (x1:Int):=([92,((x0)[Int.toNat x1]?.getD 0)]:List (UInt8))
abbrev ex10 (x0:List UInt8) (x1:Int):=([((x0)[Int.toNat x1]?.getD 0)]:List (UInt8))
abbrev ex11 (x0:List UInt8) (x1:Int):Nat × D:=(5,.val (.int .u8 (((x0)[Int.toNat x1]?.getD 0).toNat:Int)))
abbrev ex12 (x0:List (UInt8)):=(x0 ++ ([92,110]:List (UInt8)))
abbrev ex13 (x0:List (UInt8)):=(x0 ++ ([92,116]:List (UInt8)))
abbrev ex15 (x0:List UInt8) (x1:Int):=(((x0)[Int.toNat x1]?.getD 0).toNat:Int)
abbrev ex16 (x0:List UInt8) (x1:Int):=(IntKind.wrap .u8 ((BitVec.ofInt (IntKind.bits .u8) (ex15 x0 x1) &&& BitVec.ofInt (IntKind.bits .u8) 15).toNat))
abbrev ex17 (x0:List UInt8) (x1:Int):=(Int.fdiv (ex15 x0 x1) (2 ^ (min (Int.toNat 4) (IntKind.bits .u8))))
theorem ok_quote_Double_j2 (n:Nat) (v0:List UInt8) (v3:List (UInt8)) (v13:Int) (v14:Int) (o:(List (UInt8))) (h:quote_Double_j2 n v0 v3 v13 v14 = some o) {F0:Fz} {w0:Pt Tryd.prog} {Q:Exit → Act → World → Prop} (hQ:To 65 F0 w0 [(0,.str v0),(3,.row 1003),(13,vi v13),(14,vi v14)] [(1003,5,[rc8 o])] .normal Q):Wp Tryd.prog 65 F0 w0 [(0,.str v0),(3,.row 1003),(13,vi v13),(14,vi v14)] [(1003,5,[rc8 v3])] (cA (cB (cB (cI (cI (cB (cA (cB (cB (cF Tryd.f42)))))))))) Q:=by
 unfold quote_Double_j2 at h
 refine Wp.block (Wp.seq (rg [0,3,4,13,14] [1003] [(0,.str v0),(3,.row 1003),(4,vi v14),(13,vi v13),(14,vi v14)] [(1003,5,[rc8 v3])] (To.thenN (Wp.seq ?_))))
 obtain ⟨hc11,h⟩:=chk_of h
 refine r0 [0,3,5,13,14] [1003] [(0,.str v0),(3,.row 1003),(ex11 v0 v14),(13,vi v13),(14,vi v14)] [(1003,5,[rc8 v3])] (AllP.cons hc11 AllP.nil) (To.thenN (Wp.block (Wp.seq ?_)))
 obtain ⟨x1,hx1,h⟩:=lett_of h
 refine rg [0,3,5,13,14,24] [1003] [(0,.str v0),(3,.row 1003),(ex11 v0 v14),(13,vi v13),(14,vi v14),(24,vb (bif ((ex15 v0 v14) == 34) then true else ((ex15 v0 v14) == 92)))] [(1003,5,[rc8 v3])] (To.eq (K':=[(0,.str v0),(3,.row 1003),(ex11 v0 v14),(13,vi v13),(14,vi v14),(24,vb x1)]) (L':=[(1003,5,[rc8 v3])]) (by cases hx1; rfl) (by cases hx1; rfl) (To.thenN (cn h (fun h=>?_) (fun h=>?_))))
 ·obtain ⟨hc2,h⟩:=chk_of h
  refine rr [] [(2,rs9 ([92,((v0)[Int.toNat v14]?.getD 0)])),(3,rs9 (v3 ++ (ex9 v0 v14)))] [] [0,3,13,14] [34] [(0,.str v0),(3,.row 34),(13,vi v13),(14,vi v14)] [(34,5,[rc8 (v3 ++ (ex9 v0 v14))])] [(MkOb 1 [.val (.int .u8 92),.val (.int .u8 (ex15 v0 v14))] 2 (rs9 ([92,((v0)[Int.toNat v14]?.getD 0)])) ∧ GoodR (rs9 ([92,((v0)[Int.toNat v14]?.getD 0)]))),_,(AppOb 0 e8 v3 (List.flatMap e8 (ex9 v0 v14)) (List.length (ex9 v0 v14)) (rs9 (v3 ++ (ex9 v0 v14))) ∧ GoodR (rs9 (v3 ++ (ex9 v0 v14))))] (AllP.cons (mkOb (All8.cells (ns:=[92,(ex15 v0 v14)]) (.cons rfl (.cons rfl .nil))) rfl rfl (good8 _)) (AllP.cons hc2 (AllP.cons (appOb rfl rfl (good8 _)) AllP.nil))) (To.blockN (To.blockN (nt [0,3,13,14] [34] [(34,1003)] [0,3,13,14] [1003] [(0,.str v0),(3,.row 1003),(13,vi v13),(14,vi v14)] [(1003,5,[rc8 (v3 ++ (ex9 v0 v14))])] ?_)))
  cases h
  exact hQ
 ·refine Wp.seq (rg [0,3,5,13,14,35] [1003] [(0,.str v0),(3,.row 1003),(ex11 v0 v14),(13,vi v13),(14,vi v14),(35,vb ((ex15 v0 v14) == 10))] [(1003,5,[rc8 v3])] (To.thenN (cn h (fun h=>?_) (fun h=>?_))))
  ·obtain ⟨hc3,h⟩:=chk_of h
   refine rr [] [(1,rs9 [92,110]),(2,rs9 (ex12 v3))] [] [0,3,13,14] [40] [(0,.str v0),(3,.row 40),(13,vi v13),(14,vi v14)] [(40,5,[rc8 (ex12 v3)])] [(MkOb 1 [.val (.int .u8 92),.val (.int .u8 110)] 2 (rs9 [92,110]) ∧ GoodR (rs9 [92,110])),_,(AppOb 0 e8 v3 (List.flatMap e8 ([92,110]:List (UInt8))) (List.length ([92,110]:List (UInt8))) (rs9 (ex12 v3)) ∧ GoodR (rs9 (ex12 v3)))] (AllP.cons (mkOb (All8.cells (ns:=[92,110]) (.cons rfl (.cons rfl .nil))) rfl rfl (good8 _)) (AllP.cons hc3 (AllP.cons (appOb rfl rfl (good8 _)) AllP.nil))) (To.blockN (To.blockN (nt [0,3,13,14] [40] [(40,1003)] [0,3,13,14] [1003] [(0,.str v0),(3,.row 1003),(13,vi v13),(14,vi v14)] [(1003,5,[rc8 (ex12 v3)])] ?_)))
   cases h
   exact hQ
  ·refine Wp.seq (rg [0,3,5,13,14,41] [1003] [(0,.str v0),(3,.row 1003),(ex11 v0 v14),(13,vi v13),(14,vi v14),(41,vb ((ex15 v0 v14) == 9))] [(1003,5,[rc8 v3])] (To.thenN (cn h (fun h=>?_) (fun h=>?_))))
   ·obtain ⟨hc4,h⟩:=chk_of h
    refine rr [] [(1,rs9 [92,116]),(2,rs9 (ex13 v3))] [] [0,3,13,14] [46] [(0,.str v0),(3,.row 46),(13,vi v13),(14,vi v14)] [(46,5,[rc8 (ex13 v3)])] [(MkOb 1 [.val (.int .u8 92),.val (.int .u8 116)] 2 (rs9 [92,116]) ∧ GoodR (rs9 [92,116])),_,(AppOb 0 e8 v3 (List.flatMap e8 ([92,116]:List (UInt8))) (List.length ([92,116]:List (UInt8))) (rs9 (ex13 v3)) ∧ GoodR (rs9 (ex13 v3)))] (AllP.cons (mkOb (All8.cells (ns:=[92,116]) (.cons rfl (.cons rfl .nil))) rfl rfl (good8 _)) (AllP.cons hc4 (AllP.cons (appOb rfl rfl (good8 _)) AllP.nil))) (To.blockN (To.blockN (nt [0,3,13,14] [46] [(46,1003)] [0,3,13,14] [1003] [(0,.str v0),(3,.row 1003),(13,vi v13),(14,vi v14)] [(1003,5,[rc8 (ex13 v3)])] ?_)))
    cases h
    exact hQ
   ·refine Wp.seq (rc [] 1 [0,3,5,13,14,47] [1003] [(0,.str v0),(3,.row 1003),(ex11 v0 v14),(13,vi v13),(14,vi v14),(47,vb (!(quote_ok (ex15 v0 v14))))] [(1003,5,[rc8 v3])] (ok_quote_ok (ex15 v0 v14) _ rfl) (To.thenN (cn h (fun h=>?_) (fun h=>?_))))
    ·obtain ⟨hc6,h⟩:=chk_of h
     obtain ⟨hc7,h⟩:=chk_of h
     obtain ⟨hc8,h⟩:=chk_of h
     obtain ⟨hc9,h⟩:=chk_of h
     obtain ⟨x5,hx5,h⟩:=lett_of h
     refine Wp.regionD hm hΓ [(7,rs9 (ex8 v0 v14)),(8,.row 59),(1008,rs9 (v3 ++ (ex7 v0 v14)))] [0,3,13,14] [59] (K':=[(0,.str v0),(3,.row 59),(13,vi v13),(14,vi v14)]) (L':=[(59,5,[rc8 (v3 ++ (ex7 v0 v14))])]) (ob:=[(decide (0 ≤ (4:Int))) = true,(decide (0 ≤ (ex17 v0 v14) ∧ (ex17 v0 v14) < (List.length ([48,49,50,51,52,53,54,55,56,57,97,98,99,100,101,102]:List UInt8):Int))) = true,(decide (0 ≤ (ex16 v0 v14) ∧ (ex16 v0 v14) < (List.length ([48,49,50,51,52,53,54,55,56,57,97,98,99,100,101,102]:List UInt8):Int))) = true,(true = true → MkOb 1 [.val (.int .u8 92),.val (.int .u8 120),.val (.int .u8 (((([48,49,50,51,52,53,54,55,56,57,97,98,99,100,101,102]:List UInt8))[Int.toNat (ex17 v0 v14)]?.getD 0).toNat:Int)),.val (.int .u8 (((([48,49,50,51,52,53,54,55,56,57,97,98,99,100,101,102]:List UInt8))[Int.toNat (ex16 v0 v14)]?.getD 0).toNat:Int))] 4 (rs9 (ex8 v0 v14)) ∧ GoodR (rs9 (ex8 v0 v14))),(decide ((List.length v3 + List.length (ex7 v0 v14)) * (1 + 1) ≤ limit)) = true,(AppOb 0 e8 v3 (List.flatMap e8 (ex7 v0 v14)) (List.length (ex7 v0 v14)) (rs9 (v3 ++ (ex7 v0 v14))) ∧ GoodR (rs9 (v3 ++ (ex7 v0 v14))))]) (by kernel_rfl) (AllP.cons hc6 (AllP.cons hc7 (AllP.cons hc8 (AllP.cons (fun _=>mkOb (All8.cells (ns:=[92,120,(((([48,49,50,51,52,53,54,55,56,57,97,98,99,100,101,102]:List UInt8))[Int.toNat (ex17 v0 v14)]?.getD 0).toNat:Int),(((([48,49,50,51,52,53,54,55,56,57,97,98,99,100,101,102]:List UInt8))[Int.toNat (ex16 v0 v14)]?.getD 0).toNat:Int)]) (.cons rfl (.cons rfl (.cons rfl (.cons rfl .nil))))) rfl rfl (good8 _)) (AllP.cons hc9 (AllP.cons (appOb rfl rfl (good8 _)) AllP.nil)))))) (To.eq (K':=[(0,.str v0),(3,.row 59),(13,vi v13),(14,vi v14)]) (L':=[(59,5,[rc8 x5])]) (by cases hx5; rfl) (by cases hx5; rfl) (To.blockN (To.blockN (nt [0,3,13,14] [59] [(59,1003)] [0,3,13,14] [1003] [(0,.str v0),(3,.row 1003),(13,vi v13),(14,vi v14)] [(1003,5,[rc8 x5])] ?_))))
     cases h
     exact hQ
    ·obtain ⟨hc10,h⟩:=chk_of h
     refine rr [] [(2,rs9 ([((v0)[Int.toNat v14]?.getD 0)])),(3,rs9 (v3 ++ (ex10 v0 v14)))] [] [0,3,13,14] [23] [(0,.str v0),(3,.row 23),(13,vi v13),(14,vi v14)] [(23,5,[rc8 (v3 ++ (ex10 v0 v14))])] [(MkOb 1 [.val (.int .u8 (ex15 v0 v14))] 1 (rs9 ([((v0)[Int.toNat v14]?.getD 0)])) ∧ GoodR (rs9 ([((v0)[Int.toNat v14]?.getD 0)]))),_,(AppOb 0 e8 v3 (List.flatMap e8 (ex10 v0 v14)) (List.length (ex10 v0 v14)) (rs9 (v3 ++ (ex10 v0 v14))) ∧ GoodR (rs9 (v3 ++ (ex10 v0 v14))))] (AllP.cons (mkOb (All8.cells (ns:=[(ex15 v0 v14)]) (.cons rfl .nil)) rfl rfl (good8 _)) (AllP.cons hc10 (AllP.cons (appOb rfl rfl (good8 _)) AllP.nil))) (To.blockN (To.blockN (nt [0,3,13,14] [23] [(23,1003)] [0,3,13,14] [1003] [(0,.str v0),(3,.row 1003),(13,vi v13),(14,vi v14)] [(1003,5,[rc8 (v3 ++ (ex10 v0 v14))])] ?_)))
     cases h
     exact hQ
def quote_Double_l1 (n:Nat) (v0:List UInt8) (v13:Int):Nat → (List (UInt8)) → Int → Option ((List (UInt8)))
 | 0,_,_=>none
 | k + 1,v3,v14=>if (decide (v14 < v13)) = true then ((quote_Double_j2 n v0 v3 v13 v14).bind fun o1 =>
 quote_Double_l1 n v0 v13 k o1 (IntKind.wrap .i64 (v14 + 1)))
 else some v3
theorem ok_quote_Double_l1 (n:Nat) (v0:List UInt8) (v13:Int) {F0:Fz} {w0:Pt Tryd.prog} {Q:Exit → Act → World → Prop} (k:Nat):∀ (v3:List (UInt8)) (v14:Int) (o:(List (UInt8))),quote_Double_l1 n v0 v13 k v3 v14 = some o → To 65 F0 w0 [(3,.row 1003)] [(1003,5,[rc8 o])] (.exit 0) Q → WL Tryd.prog 65 F0 w0 [(0,.str v0),(3,.row 1003),(13,vi v13),(14,vi v14)] [(1003,5,[rc8 v3])] (cI (cI (cB (cA (cB (cB (cF Tryd.f42))))))) Q:=by
 induction k with
 | zero=>intro v3 v14 o h; cases h
 | succ k ih =>
  intro v3 v14 o h hQ
  rw [quote_Double_l1] at h
  refine WL.round (Wp.seq (rg [0,3,13,14,15] [1003] [(0,.str v0),(3,.row 1003),(13,vi v13),(14,vi v14),(15,vb (decide (v14 < v13)))] [(1003,5,[rc8 v3])] (To.thenN (Wp.seq (cn h (fun h=>?_) (fun h=>?_))))))
  ·refine Wp.skip (To.thenN (Wp.seq ?_))
   obtain ⟨o1,ho1,h⟩:=bind_of h
   refine kw [0,3,13,14] [1003] [(0,.str v0),(3,.row 1003),(13,vi v13),(14,vi v14)] [(1003,5,[rc8 v3])] (ok_quote_Double_j2 n v0 v3 v13 v14 o1 ho1 (To.thenN (rg [0,3,13,14] [1003] [(0,.str v0),(3,.row 1003),(13,vi v13),(14,vi (IntKind.wrap .i64 (v14 + 1)))] [(1003,5,[rc8 o1])] (kt [0,3,13,14] [1003] [(0,.str v0),(3,.row 1003),(13,vi v13),(14,vi (IntKind.wrap .i64 (v14 + 1)))] [(1003,5,[rc8 o1])] (To.again ?_)))))
   exact ih o1 (IntKind.wrap .i64 (v14 + 1)) _ h hQ
  ·refine Wp.exit (To.thenX (To.thenX (kt [3] [1003] [(3,.row 1003)] [(1003,5,[rc8 v3])] ?_)))
   cases h
   exact hQ
def quote_Double (n:Nat) (a0:List UInt8):Option ((List UInt8)) :=
 if (decide (0 ≤ (0:Int) ∧ (0:Int) ≤ (IntKind.wrap .i64 ((List.length a0:Int) + 2)))) = true then (if (decide ((IntKind.wrap .i64 ((List.length a0:Int) + 2)) * ((1 + 1:Nat):Int) ≤ (limit:Int))) = true then (if (decide ((List.length ([]:List (UInt8)) + List.length ([34]:List (UInt8))) * (1 + 1) ≤ limit)) = true then ((quote_Double_l1 n a0 (List.length a0:Int) n (([]:List (UInt8)) ++ ([34]:List (UInt8))) 0).bind fun o1 =>
 if (decide ((List.length o1 + List.length ([34]:List (UInt8))) * (1 + 1) ≤ limit)) = true then (some (o1 ++ ([34]:List (UInt8)))) else none) else none) else none) else none
theorem ok_quote_Double (n:Nat) (a0:List UInt8) (r:(List UInt8)) (h:quote_Double n a0 = some r):CallsX Tryd.prog 42 [.str a0] (.str r):=by
 unfold quote_Double at h
 refine xo Tryd.f42 rfl fun F0 w0 _=>?_
 refine Wp.seq (rg [0] [] [(0,.str a0)] [] (To.thenN (Wp.seq ?_)))
 obtain ⟨hc3,h⟩:=chk_of h
 obtain ⟨hc4,h⟩:=chk_of h
 obtain ⟨hc5,h⟩:=chk_of h
 refine rr [] [(3,rs9 []),(4,rs9 [34]),(5,rs9 (([]:List (UInt8)) ++ ([34]:List (UInt8))))] [] [0,3] [11] [(0,.str a0),(3,.row 11)] [(11,5,[rc8 (([]:List (UInt8)) ++ ([34]:List (UInt8)))])] [_,_,(MadeOb [.val (.int .u8 0)] (Int.toNat 0) (rs9 []) ∧ GoodR (rs9 [])),(MkOb 1 [.val (.int .u8 34)] 1 (rs9 [34]) ∧ GoodR (rs9 [34])),_,(AppOb 0 e8 ([]:List (UInt8)) (List.flatMap e8 ([34]:List (UInt8))) (List.length ([34]:List (UInt8))) (rs9 (([]:List (UInt8)) ++ ([34]:List (UInt8)))) ∧ GoodR (rs9 (([]:List (UInt8)) ++ ([34]:List (UInt8)))))] (AllP.cons hc3 (AllP.cons hc4 (AllP.cons (madeOb (by kernel_rfl) (good8 _)) (AllP.cons (mkOb (All8.cells (ns:=[34]) (.cons rfl .nil)) rfl rfl (good8 _)) (AllP.cons hc5 (AllP.cons (appOb rfl rfl (good8 _)) AllP.nil)))))) (To.thenN (Wp.seq (Wp.seq (rg [0,3,13,14] [11] [(0,.str a0),(3,.row 11),(13,vi (List.length a0:Int)),(14,vi 0)] [(11,5,[rc8 (([]:List (UInt8)) ++ ([34]:List (UInt8)))])] (To.thenN (Wp.block ?_))))))
 obtain ⟨o1,ho1,h⟩:=bind_of h
 refine nw [0,3,13,14] [11] [(11,1003)] [0,3,13,14] [1003] [(0,.str a0),(3,.row 1003),(13,vi (List.length a0:Int)),(14,vi 0)] [(1003,5,[rc8 (([]:List (UInt8)) ++ ([34]:List (UInt8)))])] (Wp.loopL (ok_quote_Double_l1 n a0 (List.length a0:Int) n (([]:List (UInt8)) ++ ([34]:List (UInt8))) 0 o1 ho1 (To.blockX (To.thenN (Wp.seq ?_)))))
 obtain ⟨hc2,h⟩:=chk_of h
 refine rr [] [(1,rs9 [34]),(2,rs9 (o1 ++ ([34]:List (UInt8)))),(3,.str (o1 ++ ([34]:List (UInt8))))] [] [2] [] [(2,.str (o1 ++ ([34]:List (UInt8))))] [] [(MkOb 1 [.val (.int .u8 34)] 1 (rs9 [34]) ∧ GoodR (rs9 [34])),_,(AppOb 0 e8 o1 (List.flatMap e8 ([34]:List (UInt8))) (List.length ([34]:List (UInt8))) (rs9 (o1 ++ ([34]:List (UInt8)))) ∧ GoodR (rs9 (o1 ++ ([34]:List (UInt8))))),(true = true → StrOb (List.flatMap e8 (o1 ++ ([34]:List (UInt8)))) (.str (o1 ++ ([34]:List (UInt8)))))] (AllP.cons (mkOb (All8.cells (ns:=[34]) (.cons rfl .nil)) rfl rfl (good8 _)) (AllP.cons hc2 (AllP.cons (appOb rfl rfl (good8 _)) (AllP.cons (fun _=>strOb (flat8 _)) AllP.nil)))) (To.thenN (Wp.ret ?_))
 cases h
 exact To.done hΓ (by kernel_rfl)
def env_Text_l1 (n:Nat) (v6:List (S_api_Var)) (v7:Int):Nat → Int → (List UInt8) → Option ((List UInt8))
 | 0,_,_=>none
 | k + 1,v8,b3=>if (decide (v8 < v7)) = true then (if (decide (0 ≤ v8 ∧ v8 < (List.length v6:Int))) = true then (if (decide (((List.length (((v6)[Int.toNat v8]?.getD (S_api_Var.mk [] [])).f_Key) + List.length ([61]:List UInt8):Nat):Int) ≤ 9223372036854775807)) = true then ((quote_Double n (((v6)[Int.toNat v8]?.getD (S_api_Var.mk [] [])).f_Val)).bind fun r1 =>
 if (decide (((List.length ((((v6)[Int.toNat v8]?.getD (S_api_Var.mk [] [])).f_Key) ++ [61]) + List.length r1:Nat):Int) ≤ 9223372036854775807)) = true then (if (decide (((List.length (((((v6)[Int.toNat v8]?.getD (S_api_Var.mk [] [])).f_Key) ++ [61]) ++ r1) + List.length ([10]:List UInt8):Nat):Int) ≤ 9223372036854775807)) = true then (if (decide ((List.length b3 + List.length ((((((v6)[Int.toNat v8]?.getD (S_api_Var.mk [] [])).f_Key) ++ [61]) ++ r1) ++ [10])) * (1 + 1) ≤ limit)) = true then (env_Text_l1 n v6 v7 k (IntKind.wrap .i64 (v8 + 1)) (b3 ++ ((((((v6)[Int.toNat v8]?.getD (S_api_Var.mk [] [])).f_Key) ++ [61]) ++ r1) ++ [10]))) else none) else none) else none) else none) else none)
 else some b3
theorem ok_env_Text_l1 (n:Nat) (v6:List (S_api_Var)) (v7:Int) {F0:Fz} {w0:Pt Tryd.prog} {Q:Exit → Act → World → Prop} (k:Nat):∀ (v8:Int) (b3:List UInt8) (o:(List UInt8)),env_Text_l1 n v6 v7 k v8 b3 = some o → To 23 F0 w0 [(3,.own 3 0)] [(3,73,[.opt 3,.srow 4181]),(4181,5,[rc8 o])] (.exit 0) Q → WL Tryd.prog 23 F0 w0 [(3,.own 3 0),(6,rs4 v6),(7,vi v7),(8,vi v8)] [(3,73,[.opt 3,.srow 4181]),(4181,5,[rc8 b3])] (cI (cI (cB (cA (cB (cB (cF Tryd.f25))))))) Q:=by
 induction k with
 | zero=>intro v8 b3 o h; cases h
 | succ k ih =>
  intro v8 b3 o h hQ
  rw [env_Text_l1] at h
  refine WL.round (Wp.seq (rg [3,6,7,8,9] [3,4181] [(3,.own 3 0),(6,rs4 v6),(7,vi v7),(8,vi v8),(9,vb (decide (v8 < v7)))] [(3,73,[.opt 3,.srow 4181]),(4181,5,[rc8 b3])] (To.thenN (Wp.seq (cn h (fun h=>?_) (fun h=>?_))))))
  ·refine Wp.skip (To.thenN (Wp.seq (Wp.block (Wp.seq ?_))))
   obtain ⟨hc6,h⟩:=chk_of h
   refine r0 [3,5,6,7,8] [3,5,4181] [(3,.own 3 0),(5,.own 5 0),(6,rs4 v6),(7,vi v7),(8,vi v8)] [(3,73,[.opt 3,.srow 4181]),(5,43,[.str ((ex4 v6 v8).f_Key),.str ((ex4 v6 v8).f_Val)]),(4181,5,[rc8 b3])] (AllP.cons hc6 AllP.nil) (To.thenN ?_)
   obtain ⟨hc3,h⟩:=chk_of h
   obtain ⟨r1,hr1,h⟩:=bind_of h
   obtain ⟨hc4,h⟩:=chk_of h
   obtain ⟨hc5,h⟩:=chk_of h
   obtain ⟨u2,h⟩:=chk_of h
   refine Wp.regionS hm hΓ 6 [] [(5,.str r1)] [(8,⟨[(1000000,3),(1000001,4181)],[(1000000,3),(1,4181)],[.own 1000000 0,.str (((((ex4 v6 v8).f_Key) ++ [61]) ++ r1) ++ [10])],[(1000000,73,[.opt 1000000,.srow 1000001]),(1000001,5,[rc8 b3])],.tup [vi (List.length (((((ex4 v6 v8).f_Key) ++ [61]) ++ r1) ++ [10]):Int),.val (.nilIface)],[(1000000,73,[.opt 1000000,.srow 1]),(1,5,[rc8 (b3 ++ (((((ex4 v6 v8).f_Key) ++ [61]) ++ r1) ++ [10]))])]⟩)] [3,6,7,8] [3,4181] (K':=[(3,.own 3 0),(6,rs4 v6),(7,vi v7),(8,vi v8)]) (L':=[(3,73,[.opt 3,.srow 4181]),(4181,5,[rc8 (b3 ++ (((((ex4 v6 v8).f_Key) ++ [61]) ++ r1) ++ [10]))])]) (ob:=[(decide (((List.length ((ex4 v6 v8).f_Key) + List.length ([61]:List UInt8):Nat):Int) ≤ 9223372036854775807)) = true,(true = true → CX Tryd.prog 42 [.str ((ex4 v6 v8).f_Val)] (.str r1)),(decide (((List.length (((ex4 v6 v8).f_Key) ++ [61]) + List.length r1:Nat):Int) ≤ 9223372036854775807)) = true,(decide (((List.length ((((ex4 v6 v8).f_Key) ++ [61]) ++ r1) + List.length ([10]:List UInt8):Nat):Int) ≤ 9223372036854775807)) = true,CbOb (CallsB Tryd.prog) 32 [.own 3 0,.str (((((ex4 v6 v8).f_Key) ++ [61]) ++ r1) ++ [10])] [some (73,[.opt 3,.srow 4181]),some (5,[rc8 b3])] ⟨[(1000000,3),(1000001,4181)],[(1000000,3),(1,4181)],[.own 1000000 0,.str (((((ex4 v6 v8).f_Key) ++ [61]) ++ r1) ++ [10])],[(1000000,73,[.opt 1000000,.srow 1000001]),(1000001,5,[rc8 b3])],.tup [vi (List.length (((((ex4 v6 v8).f_Key) ++ [61]) ++ r1) ++ [10]):Int),.val (.nilIface)],[(1000000,73,[.opt 1000000,.srow 1]),(1,5,[rc8 (b3 ++ (((((ex4 v6 v8).f_Key) ++ [61]) ++ r1) ++ [10]))])]⟩]) (by kernel_rfl) (AllP.cons hc3 (AllP.cons (fun _=>cx (ok_quote_Double n ((ex4 v6 v8).f_Val) _ hr1)) (AllP.cons hc4 (AllP.cons hc5 (AllP.cons (⟨writeString (l:=b3) (s:=(((((ex4 v6 v8).f_Key) ++ [61]) ++ r1) ++ [10])) u2,by kernel_rfl,by kernel_rfl⟩) AllP.nil))))) ?_
   refine To.blockN (To.thenN (rg [3,6,7,8] [3,4181] [(3,.own 3 0),(6,rs4 v6),(7,vi v7),(8,vi (IntKind.wrap .i64 (v8 + 1)))] [(3,73,[.opt 3,.srow 4181]),(4181,5,[rc8 (b3 ++ (((((ex4 v6 v8).f_Key) ++ [61]) ++ r1) ++ [10]))])] (kt [3,6,7,8] [3,4181] [(3,.own 3 0),(6,rs4 v6),(7,vi v7),(8,vi (IntKind.wrap .i64 (v8 + 1)))] [(3,73,[.opt 3,.srow 4181]),(4181,5,[rc8 (b3 ++ (((((ex4 v6 v8).f_Key) ++ [61]) ++ r1) ++ [10]))])] (To.again ?_))))
   exact ih (IntKind.wrap .i64 (v8 + 1)) (b3 ++ (((((ex4 v6 v8).f_Key) ++ [61]) ++ r1) ++ [10])) _ h hQ
  ·refine Wp.exit (To.thenX (To.thenX (kt [3] [3,4181] [(3,.own 3 0)] [(3,73,[.opt 3,.srow 4181]),(4181,5,[rc8 b3])] ?_)))
   cases h
   exact hQ
def env_Text (n:Nat) (a0:List (S_api_Var)):Option ((List UInt8)) :=
 (env_Text_l1 n a0 (List.length a0:Int) n 0 ([]:List (UInt8))).bind fun o1 =>
 some o1
theorem ok_env_Text (n:Nat) (a0:List (S_api_Var)) (r:(List UInt8)) (h:env_Text n a0 = some r):CallsX Tryd.prog 25 [rs4 a0] (.str r):=by
 unfold env_Text at h
 refine xo Tryd.f25 rfl fun F0 w0 _=>?_
 refine Wp.seq (rg [0] [] [(0,rs4 a0)] [] (To.thenN (Wp.seq (rg [0,3] [3] [(0,rs4 a0),(3,.own 3 0)] [(3,73,[.val (.pointer none),.val (.slice none 0 0)])] (To.pre (St.builderB 3 4181 5 (by decide) (by kernel_rfl) (L':=[(3,73,[.opt 3,.srow 4181])]) (by kernel_rfl)) (To.thenN (Wp.seq (Wp.seq (rg [3,6,7,8] [3,4181] [(3,.own 3 0),(6,rs4 a0),(7,vi (List.length a0:Int)),(8,vi 0)] [(3,73,[.opt 3,.srow 4181]),(4181,5,[rc8 []])] (To.thenN (Wp.block ?_)))))))))))
 obtain ⟨o1,ho1,h⟩:=bind_of h
 refine kw [3,6,7,8] [3,4181] [(3,.own 3 0),(6,rs4 a0),(7,vi (List.length a0:Int)),(8,vi 0)] [(3,73,[.opt 3,.srow 4181]),(4181,5,[rc8 []])] (Wp.loopL (ok_env_Text_l1 n a0 (List.length a0:Int) n 0 ([]:List (UInt8)) o1 ho1 (To.blockX (To.thenN (Wp.seq (rb [] 0 ⟨[(1000000,3),(1000001,4181)],[(1000000,3)],[.own 1000000 0],[(1000000,73,[.opt 1000000,.srow 1000001]),(1000001,5,[rc8 o1])],.str o1,[(1000000,73,[.opt 1000000,.hole])]⟩ [2] [] [(2,.str o1)] [] (bstring (l:=o1)) (To.thenN (Wp.ret ?_))))))))
 cases h
 exact To.done hΓ (by kernel_rfl)
def law12_EnvOver_j1 (n:Nat) (v2:List UInt8) (v7:List (S_api_Var)) (v9:List (S_api_Var)) (v10:List UInt8) (v11:Bool) (v12:List UInt8) (v13:Bool) (v48:Bool):Option ((List UInt8) × Bool) :=
 if v48 = true then ((env_Get n v7 v2).bind fun r9 =>
 some (r9.1,r9.2))
 else (some (v12,v13))
theorem ok_law12_EnvOver_j1 (n:Nat) (v2:List UInt8) (v7:List (S_api_Var)) (v9:List (S_api_Var)) (v10:List UInt8) (v11:Bool) (v12:List UInt8) (v13:Bool) (v48:Bool) (o:(List UInt8) × Bool) (h:law12_EnvOver_j1 n v2 v7 v9 v10 v11 v12 v13 v48 = some o) {F0:Fz} {w0:Pt Tryd.prog} {Q:Exit → Act → World → Prop} (hQ:To 111 F0 w0 [(9,rs4 v9),(10,.str v10),(11,vb v11),(12,.str o.1),(13,vb o.2)] [] .normal Q):Wp Tryd.prog 111 F0 w0 [(2,.str v2),(7,rs4 v7),(9,rs4 v9),(10,.str v10),(11,vb v11),(12,.str v12),(13,vb v13),(48,vb v48)] [] (cB (cA (cB (cB (cB (cB (cB (cB (cF Tryd.f6))))))))) Q:=by
 unfold law12_EnvOver_j1 at h
 refine cn h (fun h=>?_) (fun h=>?_)
 ·obtain ⟨r9,hr9,h⟩:=bind_of h
  refine rc [] 2 [9,10,11,12,13] [] [(9,rs4 v9),(10,.str v10),(11,vb v11),(12,.str r9.1),(13,vb r9.2)] [] (ok_env_Get n v7 v2 _ hr9) (kt [9,10,11,12,13] [] [(9,rs4 v9),(10,.str v10),(11,vb v11),(12,.str r9.1),(13,vb r9.2)] [] ?_)
  cases h
  exact hQ
 ·refine Wp.skip (kt [9,10,11,12,13] [] [(9,rs4 v9),(10,.str v10),(11,vb v11),(12,.str v12),(13,vb v13)] [] ?_)
  cases h
  exact hQ
def law12_EnvOver_l2 (n:Nat) (v9:List (S_api_Var)):Nat → Int → Option (Sum (Unit) (Bool))
 | 0,_=>none
 | k + 1,v14=>if (decide (v14 < (List.length v9:Int))) = true then (if (decide (0 ≤ (IntKind.wrap .i64 (v14 - 1)) ∧ (IntKind.wrap .i64 (v14 - 1)) < (List.length v9:Int))) = true then (if (decide (0 ≤ v14 ∧ v14 < (List.length v9:Int))) = true then (lett ((!(Op.bytesLess (((v9)[Int.toNat (IntKind.wrap .i64 (v14 - 1))]?.getD (S_api_Var.mk [] [])).f_Key) (((v9)[Int.toNat v14]?.getD (S_api_Var.mk [] [])).f_Key))):Bool) fun x10 =>
 if x10 = true then (some (.inr false))
 else (law12_EnvOver_l2 n v9 k (IntKind.wrap .i64 (v14 + 1)))) else none) else none)
 else (some (.inl ()))
end Go.Proofs.YtibgdilkodjojaaDoor.M
