import Derived.Test.YtibgdilkodjojaaGreatDoorQMG12a
set_option linter.all false
namespace Go.Proofs.YtibgdilkodjojaaGreatDoor.M
open Go.RowKit Go.Proofs.YtibgdilkodjojaaGreatDoor.RX
set_option maxRecDepth 100000
theorem ok_env_Of_j2 (n:Nat) (v8:List (S_api_Var)) (v9:Int) (v10:Int) (b7:List (MK × S_env_entry)) (o:(List (MK × S_env_entry))) (h:env_Of_j2 n v8 v9 v10 b7 = some o) {F0:Fz} {w0:Pt Tryz.prog} {Q:Exit → Act → World → Prop} (hQ:To 31 F0 w0 [(3,.mp 7),(8,rs4 v8),(9,vi v9),(10,vi v10)] [(7,68,[.mapc none true (α:=S_env_entry) zx2 E_env_entry o])] .normal Q):Wp Tryz.prog 31 F0 w0 [(3,.mp 7),(8,rs4 v8),(9,vi v9),(10,vi v10)] [(7,68,[.mapc none true (α:=S_env_entry) zx2 E_env_entry b7])] (cA (cB (cB (cI (cI (cB (cA (cB (cB (cF Tryz.f19)))))))))) Q:=by
 unfold env_Of_j2 at h
 refine Wp.block (Wp.seq ?_)
 obtain ⟨hc2,h⟩:=chk_of h
 refine r0 [3,5,8,9,10] [5,7] [(3,.mp 7),(5,.own 5 0),(8,rs4 v8),(9,vi v9),(10,vi v10)] [(5,48,[.str ((ex5 v8 v10).f_Key),.str ((ex5 v8 v10).f_Val)]),(7,68,[.mapc none true (α:=S_env_entry) zx2 E_env_entry b7])] (AllP.cons hc2 AllP.nil) (To.thenN (Wp.seq ?_))
 obtain ⟨r1,hr1,h⟩:=bind_of h
 refine rc [] 2 [3,5,8,9,10,16] [5,7] [(3,.mp 7),(5,.own 5 0),(8,rs4 v8),(9,vi v9),(10,vi v10),(16,vb r1)] [(5,48,[.str ((ex5 v8 v10).f_Key),.str ((ex5 v8 v10).f_Val)]),(7,68,[.mapc none true (α:=S_env_entry) zx2 E_env_entry b7])] (ok_name_Variable n ((ex5 v8 v10).f_Key) _ hr1) (To.thenN (cn h (fun h=>?_) (fun h=>?_)))
 ·refine rr [] [(6,.mapc none true (α:=S_env_entry) zx2 E_env_entry (mput b7 (.inl ((ex5 v8 v10).f_Key)) (S_env_entry.mk ((ex5 v8 v10).f_Val))))] [] [3,8,9,10] [7] [(3,.mp 7),(8,rs4 v8),(9,vi v9),(10,vi v10)] [(7,68,[.mapc none true (α:=S_env_entry) zx2 E_env_entry (mput b7 (.inl ((ex5 v8 v10).f_Key)) (S_env_entry.mk ((ex5 v8 v10).f_Val)))])] [(∃ l':List (MK × S_env_entry),(.mapc none true (α:=S_env_entry) zx2 E_env_entry (mput b7 (.inl ((ex5 v8 v10).f_Key)) (S_env_entry.mk ((ex5 v8 v10).f_Val))):D) = .mapc none true (α:=S_env_entry) zx2 E_env_entry l' ∧ MsetOb E_env_entry b7 (.inl ((ex5 v8 v10).f_Key)) [.str ((ex5 v8 v10).f_Val)] l')] (AllP.cons (⟨_,rfl,(S_env_entry.mk ((ex5 v8 v10).f_Val)),Weaks.of_eq (by kernel_rfl),rfl⟩) AllP.nil) (To.blockN ?_)
  cases h
  exact hQ
 ·refine Wp.skip (To.blockN (kt [3,8,9,10] [7] [(3,.mp 7),(8,rs4 v8),(9,vi v9),(10,vi v10)] [(7,68,[.mapc none true (α:=S_env_entry) zx2 E_env_entry b7])] ?_))
  cases h
  exact hQ
def env_Of_l1 (n:Nat) (v8:List (S_api_Var)) (v9:Int):Nat → Int → (List (MK × S_env_entry)) → Option ((List (MK × S_env_entry)))
 | 0,_,_=>none
 | k + 1,v10,b7=>if (decide (v10 < v9)) = true then ((env_Of_j2 n v8 v9 v10 b7).bind fun o1 =>
 env_Of_l1 n v8 v9 k (IntKind.wrap .i64 (v10 + 1)) o1)
 else some b7
theorem ok_env_Of_l1 (n:Nat) (v8:List (S_api_Var)) (v9:Int) {F0:Fz} {w0:Pt Tryz.prog} {Q:Exit → Act → World → Prop} (k:Nat):∀ (v10:Int) (b7:List (MK × S_env_entry)) (o:(List (MK × S_env_entry))),env_Of_l1 n v8 v9 k v10 b7 = some o → To 31 F0 w0 [(3,.mp 7)] [(7,68,[.mapc none true (α:=S_env_entry) zx2 E_env_entry o])] (.exit 0) Q → WL Tryz.prog 31 F0 w0 [(3,.mp 7),(8,rs4 v8),(9,vi v9),(10,vi v10)] [(7,68,[.mapc none true (α:=S_env_entry) zx2 E_env_entry b7])] (cI (cI (cB (cA (cB (cB (cF Tryz.f19))))))) Q:=by
 induction k with
 | zero=>intro v10 b7 o h; cases h
 | succ k ih =>
  intro v10 b7 o h hQ
  rw [env_Of_l1] at h
  refine WL.round (Wp.seq (rg [3,8,9,10,11] [7] [(3,.mp 7),(8,rs4 v8),(9,vi v9),(10,vi v10),(11,vb (decide (v10 < v9)))] [(7,68,[.mapc none true (α:=S_env_entry) zx2 E_env_entry b7])] (To.thenN (Wp.seq (cn h (fun h=>?_) (fun h=>?_))))))
  ·refine Wp.skip (To.thenN (Wp.seq ?_))
   obtain ⟨o1,ho1,h⟩:=bind_of h
   refine kw [3,8,9,10] [7] [(3,.mp 7),(8,rs4 v8),(9,vi v9),(10,vi v10)] [(7,68,[.mapc none true (α:=S_env_entry) zx2 E_env_entry b7])] (ok_env_Of_j2 n v8 v9 v10 b7 o1 ho1 (To.thenN (rg [3,8,9,10] [7] [(3,.mp 7),(8,rs4 v8),(9,vi v9),(ex2 v10)] [(7,68,[.mapc none true (α:=S_env_entry) zx2 E_env_entry o1])] (kt [3,8,9,10] [7] [(3,.mp 7),(8,rs4 v8),(9,vi v9),(ex2 v10)] [(7,68,[.mapc none true (α:=S_env_entry) zx2 E_env_entry o1])] (To.again ?_)))))
   exact ih (IntKind.wrap .i64 (v10 + 1)) o1 _ h hQ
  ·refine Wp.exit (To.thenX (To.thenX (kt [3] [7] [(3,.mp 7)] [(7,68,[.mapc none true (α:=S_env_entry) zx2 E_env_entry b7])] ?_)))
   cases h
   exact hQ
def env_Of (n:Nat) (a0:List (S_api_Var)):Option ((List (S_api_Var))) :=
 (env_Of_l1 n a0 (List.length a0:Int) n 0 ([]:List (MK × S_env_entry))).bind fun o1 =>
 (env_told__m0 n o1).bind fun r2 =>
 if (decide (0 ≤ (if (64:Int) < (List.length r2.1:Int) then 64 else (List.length r2.1:Int)) ∧ (if (64:Int) < (List.length r2.1:Int) then 64 else (List.length r2.1:Int)) ≤ (List.length r2.1:Int))) = true then (some (List.take (Int.toNat (if (64:Int) < (List.length r2.1:Int) then 64 else (List.length r2.1:Int))) r2.1)) else none
theorem ok_env_Of (n:Nat) (a0:List (S_api_Var)) (r:(List (S_api_Var))) (h:env_Of n a0 = some r):CallsX Tryz.prog 19 [rs4 a0] (rs4 r):=by
 unfold env_Of at h
 refine xo Tryz.f19 rfl fun F0 w0 _=>?_
 refine Wp.seq (rg [0] [] [(0,rs4 a0)] [] (To.thenN (Wp.seq (rr [] [(0,.mapc none true (α:=S_env_entry) zx2 E_env_entry [])] [] [0,3] [7] [(0,rs4 a0),(3,.mp 7)] [(7,68,[.mapc none true (α:=S_env_entry) zx2 E_env_entry []])] [(GoodM true E_env_entry)] (AllP.cons (⟨fun _=>rfl,fun h=>by cases h⟩) AllP.nil) ?_))))
 refine To.thenN (Wp.seq (Wp.seq (rg [3,8,9,10] [7] [(3,.mp 7),(8,rs4 a0),(9,vi (List.length a0:Int)),(10,vi 0)] [(7,68,[.mapc none true (α:=S_env_entry) zx2 E_env_entry []])] (To.thenN (Wp.block ?_)))))
 obtain ⟨o1,ho1,h⟩:=bind_of h
 refine kw [3,8,9,10] [7] [(3,.mp 7),(8,rs4 a0),(9,vi (List.length a0:Int)),(10,vi 0)] [(7,68,[.mapc none true (α:=S_env_entry) zx2 E_env_entry []])] (Wp.loopL (ok_env_Of_l1 n a0 (List.length a0:Int) n 0 ([]:List (MK × S_env_entry)) o1 ho1 (To.blockX (To.thenN (Wp.seq ?_)))))
 obtain ⟨r2,hr2,h⟩:=bind_of h
 refine rb [] 1 ⟨[(1000000,7)],[(1000000,7)],[.mp 1000000],[(1000000,68,[.mapc none true (α:=S_env_entry) zx2 E_env_entry o1])],rs4 r2.1,[(1000000,68,[.mapc none true (α:=S_env_entry) zx2 E_env_entry r2.2])]⟩ [6] [] [(6,rs4 r2.1)] [] ((ok_env_told__m0 n o1 _ hr2)) (To.thenN (Wp.seq ?_))
 obtain ⟨hc3,h⟩:=chk_of h
 refine r0 [2] [] [(2,rs4 (List.take (Int.toNat (if (64:Int) < (List.length r2.1:Int) then 64 else (List.length r2.1:Int))) r2.1))] [] (AllP.cons hc3 AllP.nil) (To.thenN (Wp.ret ?_))
 cases h
 exact To.done hΓ (by kernel_rfl)
def E_Lapi_Var:List (S_api_Var) → List D:=fun x=>[.recs (α:=S_api_Var) (S_api_Var.mk [] []) E_api_Var x]
theorem grow64 {x:Int} (h:decide (0 ≤ x ∧ x * 33 ≤ (limit:Int)) = true):CallsB Tryz.prog 64 [.val (.slice none 0 0),.val (.int .i64 x)] [] (.row 1) [(1,48,[.rowc false (α:=S_api_Var) (S_api_Var.mk [] []) E_api_Var []])]:=callsB_growI (size:=2) (bytes:=32) ⟨Tryz.f64,by kernel_rfl,by kernel_rfl,by kernel_rfl⟩ (good_E_api_Var []) (by kernel_rfl) (by kernel_rfl)
 (fun w=>Any8.slices_Grow_room Tryz.laysG64 none 0 0 0 w (by decide) (by decide) (by decide) (by decide))
 (fun i z hi hz hs n w h1 h2 h3=>by
  have h:=Any8.slices_Grow_grow Tryz.laysG64 i z hi hz hs none 0 0 n [] w (Nat.le_refl _) (by omega) (by simpa using h2) (by simpa using h3) (by simp) (fun _=>rfl) (fun a h=>by cases h)
  simp only [Nat.zero_add,Nat.sub_zero] at h
  exact h) h
def slices_Concat_api_Var_api_Var_j2 (n:Nat) (v0:List (List (S_api_Var))) (v3:Int) (v9:List (List (S_api_Var))) (v10:Int) (v11:Int):Option (Int) :=
 if (decide (0 ≤ v11 ∧ v11 < (List.length v9:Int))) = true then (if (decide ((IntKind.wrap .i64 (v3 + (List.length ((v9)[Int.toNat v11]?.getD []):Int))) < 0)) = true then none
 else (some (IntKind.wrap .i64 (v3 + (List.length ((v9)[Int.toNat v11]?.getD []):Int))))) else none
abbrev rs9 (l:List (List (S_api_Var))):D:=.recs (α:=List (S_api_Var)) [] E_Lapi_Var l
abbrev ex10 (x0:List (List (S_api_Var))) (x1:Int):=((x0)[Int.toNat x1]?.getD [])
abbrev ex19 (x0:Int) (x1:List (List (S_api_Var))) (x2:Int):=(IntKind.wrap .i64 (x0 + (List.length (ex10 x1 x2):Int)))
theorem ok_slices_Concat_api_Var_api_Var_j2 (n:Nat) (v0:List (List (S_api_Var))) (v3:Int) (v9:List (List (S_api_Var))) (v10:Int) (v11:Int) (o:Int) (h:slices_Concat_api_Var_api_Var_j2 n v0 v3 v9 v10 v11 = some o) {F0:Fz} {w0:Pt Tryz.prog} {Q:Exit → Act → World → Prop} (hQ:To 36 F0 w0 [(0,rs9 v0),(3,vi o),(9,rs9 v9),(10,vi v10),(11,vi v11)] [] .normal Q):Wp Tryz.prog 36 F0 w0 [(0,rs9 v0),(3,vi v3),(9,rs9 v9),(10,vi v10),(11,vi v11)] [] (cA (cB (cB (cI (cI (cB (cA (cB (cB (cF Tryz.f40)))))))))) Q:=by
 unfold slices_Concat_api_Var_api_Var_j2 at h
 refine Wp.block (Wp.seq ?_)
 obtain ⟨hc1,h⟩:=chk_of h
 refine r0 [0,3,5,9,10,11] [] [(0,rs9 v0),(3,vi v3),(5,rs4 (ex10 v9 v11)),(9,rs9 v9),(10,vi v10),(11,vi v11)] [] (AllP.cons hc1 AllP.nil) (To.thenN (Wp.seq (rg [0,3,9,10,11] [] [(0,rs9 v0),(3,vi (ex19 v3 v9 v11)),(9,rs9 v9),(10,vi v10),(11,vi v11)] [] (To.thenN (Wp.seq (rg [0,3,9,10,11,20] [] [(0,rs9 v0),(3,vi (ex19 v3 v9 v11)),(9,rs9 v9),(10,vi v10),(11,vi v11),(20,vb (decide ((ex19 v3 v9 v11) < 0)))] [] (To.thenN (cn h (fun h=>?_) (fun h=>?_)))))))))
 ·cases h
 ·refine Wp.skip (To.blockN (kt [0,3,9,10,11] [] [(0,rs9 v0),(3,vi (ex19 v3 v9 v11)),(9,rs9 v9),(10,vi v10),(11,vi v11)] [] ?_))
  cases h
  exact hQ
def slices_Concat_api_Var_api_Var_l1 (n:Nat) (v0:List (List (S_api_Var))) (v9:List (List (S_api_Var))) (v10:Int):Nat → Int → Int → Option (Int)
 | 0,_,_=>none
 | k + 1,v3,v11=>if (decide (v11 < v10)) = true then ((slices_Concat_api_Var_api_Var_j2 n v0 v3 v9 v10 v11).bind fun o1 =>
 slices_Concat_api_Var_api_Var_l1 n v0 v9 v10 k o1 (IntKind.wrap .i64 (v11 + 1)))
 else some v3
theorem ok_slices_Concat_api_Var_api_Var_l1 (n:Nat) (v0:List (List (S_api_Var))) (v9:List (List (S_api_Var))) (v10:Int) {F0:Fz} {w0:Pt Tryz.prog} {Q:Exit → Act → World → Prop} (k:Nat):∀ (v3:Int) (v11:Int) (o:Int),slices_Concat_api_Var_api_Var_l1 n v0 v9 v10 k v3 v11 = some o → To 36 F0 w0 [(0,rs9 v0),(3,vi o)] [] (.exit 0) Q → WL Tryz.prog 36 F0 w0 [(0,rs9 v0),(3,vi v3),(9,rs9 v9),(10,vi v10),(11,vi v11)] [] (cI (cI (cB (cA (cB (cB (cF Tryz.f40))))))) Q:=by
 induction k with
 | zero=>intro v3 v11 o h; cases h
 | succ k ih =>
  intro v3 v11 o h hQ
  rw [slices_Concat_api_Var_api_Var_l1] at h
  refine WL.round (Wp.seq (rg [0,3,9,10,11,12] [] [(0,rs9 v0),(3,vi v3),(9,rs9 v9),(10,vi v10),(11,vi v11),(12,vb (decide (v11 < v10)))] [] (To.thenN (Wp.seq (cn h (fun h=>?_) (fun h=>?_))))))
  ·refine Wp.skip (To.thenN (Wp.seq ?_))
   obtain ⟨o1,ho1,h⟩:=bind_of h
   refine kw [0,3,9,10,11] [] [(0,rs9 v0),(3,vi v3),(9,rs9 v9),(10,vi v10),(11,vi v11)] [] (ok_slices_Concat_api_Var_api_Var_j2 n v0 v3 v9 v10 v11 o1 ho1 (To.thenN (rg [0,3,9,10,11] [] [(0,rs9 v0),(3,vi o1),(9,rs9 v9),(10,vi v10),(11,vi (IntKind.wrap .i64 (v11 + 1)))] [] (kt [0,3,9,10,11] [] [(0,rs9 v0),(3,vi o1),(9,rs9 v9),(10,vi v10),(11,vi (IntKind.wrap .i64 (v11 + 1)))] [] (To.again ?_)))))
   exact ih o1 (IntKind.wrap .i64 (v11 + 1)) _ h hQ
  ·refine Wp.exit (To.thenX (To.thenX (kt [0,3] [] [(0,rs9 v0),(3,vi v3)] [] ?_)))
   cases h
   exact hQ
def slices_Concat_api_Var_api_Var_l3 (n:Nat) (v25:List (List (S_api_Var))) (v26:Int):Nat → (List (S_api_Var)) → Int → Option ((List (S_api_Var)))
 | 0,_,_=>none
 | k + 1,v6,v27=>if (decide (v27 < v26)) = true then (if (decide (0 ≤ v27 ∧ v27 < (List.length v25:Int))) = true then (if (decide ((List.length v6 + List.length ((v25)[Int.toNat v27]?.getD [])) * (32 + 1) ≤ limit)) = true then (slices_Concat_api_Var_api_Var_l3 n v25 v26 k (v6 ++ ((v25)[Int.toNat v27]?.getD [])) (IntKind.wrap .i64 (v27 + 1))) else none) else none)
 else some v6
theorem ok_slices_Concat_api_Var_api_Var_l3 (n:Nat) (v25:List (List (S_api_Var))) (v26:Int) {F0:Fz} {w0:Pt Tryz.prog} {Q:Exit → Act → World → Prop} (k:Nat):∀ (v6:List (S_api_Var)) (v27:Int) (o:(List (S_api_Var))),slices_Concat_api_Var_api_Var_l3 n v25 v26 k v6 v27 = some o → To 36 F0 w0 [(6,.row 1006)] [(1006,48,[rc3 o])] (.exit 2) Q → WL Tryz.prog 36 F0 w0 [(6,.row 1006),(25,rs9 v25),(26,vi v26),(27,vi v27)] [(1006,48,[rc3 v6])] (cI (cI (cB (cA (cB (cB (cB (cB (cF Tryz.f40))))))))) Q:=by
 induction k with
 | zero=>intro v6 v27 o h; cases h
 | succ k ih =>
  intro v6 v27 o h hQ
  rw [slices_Concat_api_Var_api_Var_l3] at h
  refine WL.round (Wp.seq (rg [6,25,26,27,28] [1006] [(6,.row 1006),(25,rs9 v25),(26,vi v26),(27,vi v27),(28,vb (decide (v27 < v26)))] [(1006,48,[rc3 v6])] (To.thenN (Wp.seq (cn h (fun h=>?_) (fun h=>?_))))))
  ·refine Wp.skip (To.thenN (Wp.seq (Wp.block (Wp.seq ?_))))
   obtain ⟨hc4,h⟩:=chk_of h
   refine r0 [6,8,25,26,27] [1006] [(6,.row 1006),(8,rs4 (ex10 v25 v27)),(25,rs9 v25),(26,vi v26),(27,vi v27)] [(1006,48,[rc3 v6])] (AllP.cons hc4 AllP.nil) (To.thenN ?_)
   obtain ⟨hc3,h⟩:=chk_of h
   refine rr [] [(2,rs4 (v6 ++ (ex10 v25 v27)))] [] [6,25,26,27] [33] [(6,.row 33),(25,rs9 v25),(26,vi v26),(27,vi v27)] [(33,48,[rc3 (v6 ++ (ex10 v25 v27))])] [_,(AppOb zx1 E_api_Var v6 (List.flatMap E_api_Var (ex10 v25 v27)) (List.length (ex10 v25 v27)) (rs4 (v6 ++ (ex10 v25 v27))) ∧ GoodR (rs4 (v6 ++ (ex10 v25 v27))))] (AllP.cons hc3 (AllP.cons (appOb rfl rfl (good_E_api_Var _)) AllP.nil)) (To.blockN (To.thenN (rg [6,25,26,27] [33] [(6,.row 33),(25,rs9 v25),(26,vi v26),(27,vi (IntKind.wrap .i64 (v27 + 1)))] [(33,48,[rc3 (v6 ++ (ex10 v25 v27))])] (nt [6,25,26,27] [33] [(33,1006)] [6,25,26,27] [1006] [(6,.row 1006),(25,rs9 v25),(26,vi v26),(27,vi (IntKind.wrap .i64 (v27 + 1)))] [(1006,48,[rc3 (v6 ++ (ex10 v25 v27))])] (To.again ?_)))))
   exact ih (v6 ++ (ex10 v25 v27)) (IntKind.wrap .i64 (v27 + 1)) _ h hQ
  ·refine Wp.exit (To.thenX (To.thenX (kt [6] [1006] [(6,.row 1006)] [(1006,48,[rc3 v6])] ?_)))
   cases h
   exact hQ
def slices_Concat_api_Var_api_Var (n:Nat) (a0:List (List (S_api_Var))):Option ((List (S_api_Var))) :=
 (slices_Concat_api_Var_api_Var_l1 n a0 a0 (List.length a0:Int) n 0 0).bind fun o1 =>
 if (decide (0 ≤ o1 ∧ o1 * 33 ≤ (limit:Int))) = true then ((slices_Concat_api_Var_api_Var_l3 n a0 (List.length a0:Int) n ([]:List (S_api_Var)) 0).bind fun o3 =>
 some o3) else none
theorem ok_slices_Concat_api_Var_api_Var (n:Nat) (a0:List (List (S_api_Var))) (r:(List (S_api_Var))) (h:slices_Concat_api_Var_api_Var n a0 = some r):CallsX Tryz.prog 40 [rs9 a0] (rs4 r):=by
 unfold slices_Concat_api_Var_api_Var at h
 refine xo Tryz.f40 rfl fun F0 w0 _=>?_
 refine Wp.seq (rg [0] [] [(0,rs9 a0)] [] (To.thenN (Wp.seq (rg [0,3] [] [(0,rs9 a0),(3,vi 0)] [] (To.thenN (Wp.seq (Wp.seq (rg [0,3,9,10,11] [] [(0,rs9 a0),(3,vi 0),(9,rs9 a0),(10,vi (List.length a0:Int)),(11,vi 0)] [] (To.thenN (Wp.block ?_))))))))))
 obtain ⟨o1,ho1,h⟩:=bind_of h
 refine kw [0,3,9,10,11] [] [(0,rs9 a0),(3,vi 0),(9,rs9 a0),(10,vi (List.length a0:Int)),(11,vi 0)] [] (Wp.loopL (ok_slices_Concat_api_Var_api_Var_l1 n a0 a0 (List.length a0:Int) n 0 0 o1 ho1 (To.blockX (To.thenN (Wp.seq ?_)))))
 obtain ⟨u2,h⟩:=chk_of h
 refine rb [] 1 ⟨[],[(1,24)],[.val (.slice none 0 0),vi o1],[],.row 1,[(1,48,[rc3 []])]⟩ [0,6] [24] [(0,rs9 a0),(6,.row 24)] [(24,48,[rc3 []])] (grow64 u2) (To.thenN (Wp.seq (Wp.seq (rg [6,25,26,27] [24] [(6,.row 24),(25,rs9 a0),(26,vi (List.length a0:Int)),(27,vi 0)] [(24,48,[rc3 []])] (To.thenN (Wp.block ?_))))))
 obtain ⟨o3,ho3,h⟩:=bind_of h
 refine nw [6,25,26,27] [24] [(24,1006)] [6,25,26,27] [1006] [(6,.row 1006),(25,rs9 a0),(26,vi (List.length a0:Int)),(27,vi 0)] [(1006,48,[rc3 []])] (Wp.loopL (ok_slices_Concat_api_Var_api_Var_l3 n a0 (List.length a0:Int) n ([]:List (S_api_Var)) 0 o3 ho3 (To.blockX (To.thenN (Wp.seq (rg [2] [1006] [(2,.row 1006)] [(1006,48,[rc3 o3])] (To.thenN (Wp.ret (To.pre (St.settle (ks:=[1006]) (kk:=[2]) (kl:=[1006]) (K':=[(2,.row 1006)]) (L':=[(1006,48,[rc5 o3])]) (by kernel_rfl)) (To.pre (St.sealK [2] (K':=[(2,rs4 o3)]) (by kernel_rfl)) ?_))))))))))
 cases h
 exact To.done hΓ (by kernel_rfl)
theorem good_E_Lapi_Var (l:List (List (S_api_Var))):GoodR (.recs [] E_Lapi_Var l):=⟨Nat.le_of_ble_eq_true (by kernel_rfl),fun _=>⟨rfl,rfl⟩⟩
def env_Over (n:Nat) (a0:List (S_api_Var)) (a1:List (S_api_Var)):Option ((List (S_api_Var))) :=
 (slices_Concat_api_Var_api_Var n [a0,a1]).bind fun r1 =>
 (env_Of n r1).bind fun r2 =>
 some r2
theorem ok_env_Over (n:Nat) (a0:List (S_api_Var)) (a1:List (S_api_Var)) (r:(List (S_api_Var))) (h:env_Over n a0 a1 = some r):CallsX Tryz.prog 20 [rs4 a0,rs4 a1] (rs4 r):=by
 unfold env_Over at h
 refine xo Tryz.f20 rfl fun F0 w0 _=>?_
 refine Wp.seq (rg [0,1] [] [(0,rs4 a0),(1,rs4 a1)] [] (To.thenN (Wp.seq ?_)))
 obtain ⟨r1,hr1,h⟩:=bind_of h
 obtain ⟨r2,hr2,h⟩:=bind_of h
 refine rr [(3,[7])] [(2,rs9 [a0,a1]),(3,rs4 r1),(4,rs4 r2)] [] [4] [] [(4,rs4 r2)] [] [(MkOb 1 [rs4 a0,rs4 a1] 2 (rs9 [a0,a1]) ∧ GoodR (rs9 [a0,a1])),_,_] (AllP.cons (mkOb (by kernel_rfl) rfl (by kernel_rfl) (good_E_Lapi_Var _)) (AllP.cons (c1 (ok_slices_Concat_api_Var_api_Var n [a0,a1] _ hr1)) (AllP.cons (c1 (ok_env_Of n r1 _ hr2)) AllP.nil))) (To.thenN (Wp.ret ?_))
 cases h
 exact To.done hΓ (by kernel_rfl)
def quote_Double_j2 (n:Nat) (v0:List UInt8) (v3:List (UInt8)) (v13:Int) (v14:Int):Option ((List (UInt8))) :=
 if (decide (0 ≤ v14 ∧ v14 < (List.length v0:Int))) = true then (lett ((bif ((((v0)[Int.toNat v14]?.getD 0).toNat:Int) == 34) then true else ((((v0)[Int.toNat v14]?.getD 0).toNat:Int) == 92)):Bool) fun x1 =>
 if x1 = true then (if (decide ((List.length v3 + List.length ([92,((v0)[Int.toNat v14]?.getD 0)]:List (UInt8))) * (1 + 1) ≤ limit)) = true then (some (v3 ++ ([92,((v0)[Int.toNat v14]?.getD 0)]:List (UInt8)))) else none)
 else (if ((((v0)[Int.toNat v14]?.getD 0).toNat:Int) == 10) = true then (if (decide ((List.length v3 + List.length ([92,110]:List (UInt8))) * (1 + 1) ≤ limit)) = true then (some (v3 ++ ([92,110]:List (UInt8)))) else none)
 else (if ((((v0)[Int.toNat v14]?.getD 0).toNat:Int) == 9) = true then (if (decide ((List.length v3 + List.length ([92,116]:List (UInt8))) * (1 + 1) ≤ limit)) = true then (some (v3 ++ ([92,116]:List (UInt8)))) else none)
 else (if (!(quote_ok (((v0)[Int.toNat v14]?.getD 0).toNat:Int))) = true then (if (decide (0 ≤ (4:Int))) = true then (if (decide (0 ≤ (Int.fdiv (((v0)[Int.toNat v14]?.getD 0).toNat:Int) (2 ^ (min (Int.toNat 4) (IntKind.bits .u8)))) ∧ (Int.fdiv (((v0)[Int.toNat v14]?.getD 0).toNat:Int) (2 ^ (min (Int.toNat 4) (IntKind.bits .u8)))) < (List.length ([48,49,50,51,52,53,54,55,56,57,97,98,99,100,101,102]:List UInt8):Int))) = true then (if (decide (0 ≤ (IntKind.wrap .u8 ((BitVec.ofInt (IntKind.bits .u8) (((v0)[Int.toNat v14]?.getD 0).toNat:Int) &&& BitVec.ofInt (IntKind.bits .u8) 15).toNat)) ∧ (IntKind.wrap .u8 ((BitVec.ofInt (IntKind.bits .u8) (((v0)[Int.toNat v14]?.getD 0).toNat:Int) &&& BitVec.ofInt (IntKind.bits .u8) 15).toNat)) < (List.length ([48,49,50,51,52,53,54,55,56,57,97,98,99,100,101,102]:List UInt8):Int))) = true then (if (decide ((List.length v3 + List.length ([92,120,((([48,49,50,51,52,53,54,55,56,57,97,98,99,100,101,102]:List UInt8))[Int.toNat (Int.fdiv (((v0)[Int.toNat v14]?.getD 0).toNat:Int) (2 ^ (min (Int.toNat 4) (IntKind.bits .u8))))]?.getD 0),((([48,49,50,51,52,53,54,55,56,57,97,98,99,100,101,102]:List UInt8))[Int.toNat (IntKind.wrap .u8 ((BitVec.ofInt (IntKind.bits .u8) (((v0)[Int.toNat v14]?.getD 0).toNat:Int) &&& BitVec.ofInt (IntKind.bits .u8) 15).toNat))]?.getD 0)]:List (UInt8))) * (1 + 1) ≤ limit)) = true then (lett ((v3 ++ ([92,120,((([48,49,50,51,52,53,54,55,56,57,97,98,99,100,101,102]:List UInt8))[Int.toNat (Int.fdiv (((v0)[Int.toNat v14]?.getD 0).toNat:Int) (2 ^ (min (Int.toNat 4) (IntKind.bits .u8))))]?.getD 0),((([48,49,50,51,52,53,54,55,56,57,97,98,99,100,101,102]:List UInt8))[Int.toNat (IntKind.wrap .u8 ((BitVec.ofInt (IntKind.bits .u8) (((v0)[Int.toNat v14]?.getD 0).toNat:Int) &&& BitVec.ofInt (IntKind.bits .u8) 15).toNat))]?.getD 0)]:List (UInt8))):List (UInt8)) fun x5 =>
 some x5) else none) else none) else none) else none)
 else (if (decide ((List.length v3 + List.length ([((v0)[Int.toNat v14]?.getD 0)]:List (UInt8))) * (1 + 1) ≤ limit)) = true then (some (v3 ++ ([((v0)[Int.toNat v14]?.getD 0)]:List (UInt8)))) else none))))) else none
abbrev rc10 (l:List (UInt8)):D:=.rowc false (α:=UInt8) 0 e8 l
abbrev rs11 (l:List (UInt8)):D:=.recs (α:=UInt8) 0 e8 l
abbrev ex11 (x0:List UInt8) (x1:Int):=([92,120,((([48,49,50,51,52,53,54,55,56,57,97,98,99,100,101,102]:List UInt8))[Int.toNat (Int.fdiv (((x0)[Int.toNat x1]?.getD 0).toNat:Int) (2 ^ (min (Int.toNat 4) (IntKind.bits .u8))))]?.getD 0),((([48,49,50,51,52,53,54,55,56,57,97,98,99,100,101,102]:List UInt8))[Int.toNat (IntKind.wrap .u8 ((BitVec.ofInt (IntKind.bits .u8) (((x0)[Int.toNat x1]?.getD 0).toNat:Int) &&& BitVec.ofInt (IntKind.bits .u8) 15).toNat))]?.getD 0)]:List (UInt8))
abbrev ex12 (x0:List UInt8) (x1:Int):=([92,120,((([48,49,50,51,52,53,54,55,56,57,97,98,99,100,101,102]:List UInt8))[Int.toNat (Int.fdiv (((x0)[Int.toNat x1]?.getD 0).toNat:Int) (2 ^ (min (Int.toNat 4) (IntKind.bits .u8))))]?.getD 0),((([48,49,50,51,52,53,54,55,56,57,97,98,99,100,101,102]:List UInt8))[Int.toNat (IntKind.wrap .u8 ((BitVec.ofInt (IntKind.bits .u8) (((x0)[Int.toNat x1]?.getD 0).toNat:Int) &&& BitVec.ofInt (IntKind.bits .u8) 15).toNat))]?.getD 0)])
abbrev ex13 (x0:List UInt8) (x1:Int):=([92,((x0)[Int.toNat x1]?.getD 0)]:List (UInt8))
abbrev ex14 (x0:List UInt8) (x1:Int):=([((x0)[Int.toNat x1]?.getD 0)]:List (UInt8))
abbrev ex15 (x0:List UInt8) (x1:Int):Nat × D:=(5,.val (.int .u8 (((x0)[Int.toNat x1]?.getD 0).toNat:Int)))
abbrev ex16 (x0:List (UInt8)):=(x0 ++ ([92,110]:List (UInt8)))
abbrev ex17 (x0:List (UInt8)):=(x0 ++ ([92,116]:List (UInt8)))
abbrev ex20 (x0:List UInt8) (x1:Int):=(((x0)[Int.toNat x1]?.getD 0).toNat:Int)
abbrev ex21 (x0:List UInt8) (x1:Int):=(IntKind.wrap .u8 ((BitVec.ofInt (IntKind.bits .u8) (ex20 x0 x1) &&& BitVec.ofInt (IntKind.bits .u8) 15).toNat))
abbrev ex22 (x0:List UInt8) (x1:Int):=(Int.fdiv (ex20 x0 x1) (2 ^ (min (Int.toNat 4) (IntKind.bits .u8))))
theorem ok_quote_Double_j2 (n:Nat) (v0:List UInt8) (v3:List (UInt8)) (v13:Int) (v14:Int) (o:(List (UInt8))) (h:quote_Double_j2 n v0 v3 v13 v14 = some o) {F0:Fz} {w0:Pt Tryz.prog} {Q:Exit → Act → World → Prop} (hQ:To 65 F0 w0 [(0,.str v0),(3,.row 1003),(13,vi v13),(14,vi v14)] [(1003,5,[rc10 o])] .normal Q):Wp Tryz.prog 65 F0 w0 [(0,.str v0),(3,.row 1003),(13,vi v13),(14,vi v14)] [(1003,5,[rc10 v3])] (cA (cB (cB (cI (cI (cB (cA (cB (cB (cF Tryz.f42)))))))))) Q:=by
 unfold quote_Double_j2 at h
 refine Wp.block (Wp.seq (rg [0,3,4,13,14] [1003] [(0,.str v0),(3,.row 1003),(4,vi v14),(13,vi v13),(14,vi v14)] [(1003,5,[rc10 v3])] (To.thenN (Wp.seq ?_))))
 obtain ⟨hc11,h⟩:=chk_of h
 refine r0 [0,3,5,13,14] [1003] [(0,.str v0),(3,.row 1003),(ex15 v0 v14),(13,vi v13),(14,vi v14)] [(1003,5,[rc10 v3])] (AllP.cons hc11 AllP.nil) (To.thenN (Wp.block (Wp.seq ?_)))
 obtain ⟨x1,hx1,h⟩:=lett_of h
 refine rg [0,3,5,13,14,24] [1003] [(0,.str v0),(3,.row 1003),(ex15 v0 v14),(13,vi v13),(14,vi v14),(24,vb (bif ((ex20 v0 v14) == 34) then true else ((ex20 v0 v14) == 92)))] [(1003,5,[rc10 v3])] (To.eq (K':=[(0,.str v0),(3,.row 1003),(ex15 v0 v14),(13,vi v13),(14,vi v14),(24,vb x1)]) (L':=[(1003,5,[rc10 v3])]) (by cases hx1; rfl) (by cases hx1; rfl) (To.thenN (cn h (fun h=>?_) (fun h=>?_))))
 ·obtain ⟨hc2,h⟩:=chk_of h
  refine rr [] [(2,rs11 ([92,((v0)[Int.toNat v14]?.getD 0)])),(3,rs11 (v3 ++ (ex13 v0 v14)))] [] [0,3,13,14] [34] [(0,.str v0),(3,.row 34),(13,vi v13),(14,vi v14)] [(34,5,[rc10 (v3 ++ (ex13 v0 v14))])] [(MkOb 1 [.val (.int .u8 92),.val (.int .u8 (ex20 v0 v14))] 2 (rs11 ([92,((v0)[Int.toNat v14]?.getD 0)])) ∧ GoodR (rs11 ([92,((v0)[Int.toNat v14]?.getD 0)]))),_,(AppOb 0 e8 v3 (List.flatMap e8 (ex13 v0 v14)) (List.length (ex13 v0 v14)) (rs11 (v3 ++ (ex13 v0 v14))) ∧ GoodR (rs11 (v3 ++ (ex13 v0 v14))))] (AllP.cons (mkOb (All8.cells (ns:=[92,(ex20 v0 v14)]) (.cons rfl (.cons rfl .nil))) rfl rfl (good8 _)) (AllP.cons hc2 (AllP.cons (appOb rfl rfl (good8 _)) AllP.nil))) (To.blockN (To.blockN (nt [0,3,13,14] [34] [(34,1003)] [0,3,13,14] [1003] [(0,.str v0),(3,.row 1003),(13,vi v13),(14,vi v14)] [(1003,5,[rc10 (v3 ++ (ex13 v0 v14))])] ?_)))
  cases h
  exact hQ
 ·refine Wp.seq (rg [0,3,5,13,14,35] [1003] [(0,.str v0),(3,.row 1003),(ex15 v0 v14),(13,vi v13),(14,vi v14),(35,vb ((ex20 v0 v14) == 10))] [(1003,5,[rc10 v3])] (To.thenN (cn h (fun h=>?_) (fun h=>?_))))
  ·obtain ⟨hc3,h⟩:=chk_of h
   refine rr [] [(1,rs11 [92,110]),(2,rs11 (ex16 v3))] [] [0,3,13,14] [40] [(0,.str v0),(3,.row 40),(13,vi v13),(14,vi v14)] [(40,5,[rc10 (ex16 v3)])] [(MkOb 1 [.val (.int .u8 92),.val (.int .u8 110)] 2 (rs11 [92,110]) ∧ GoodR (rs11 [92,110])),_,(AppOb 0 e8 v3 (List.flatMap e8 ([92,110]:List (UInt8))) (List.length ([92,110]:List (UInt8))) (rs11 (ex16 v3)) ∧ GoodR (rs11 (ex16 v3)))] (AllP.cons (mkOb (All8.cells (ns:=[92,110]) (.cons rfl (.cons rfl .nil))) rfl rfl (good8 _)) (AllP.cons hc3 (AllP.cons (appOb rfl rfl (good8 _)) AllP.nil))) (To.blockN (To.blockN (nt [0,3,13,14] [40] [(40,1003)] [0,3,13,14] [1003] [(0,.str v0),(3,.row 1003),(13,vi v13),(14,vi v14)] [(1003,5,[rc10 (ex16 v3)])] ?_)))
   cases h
   exact hQ
  ·refine Wp.seq (rg [0,3,5,13,14,41] [1003] [(0,.str v0),(3,.row 1003),(ex15 v0 v14),(13,vi v13),(14,vi v14),(41,vb ((ex20 v0 v14) == 9))] [(1003,5,[rc10 v3])] (To.thenN (cn h (fun h=>?_) (fun h=>?_))))
   ·obtain ⟨hc4,h⟩:=chk_of h
    refine rr [] [(1,rs11 [92,116]),(2,rs11 (ex17 v3))] [] [0,3,13,14] [46] [(0,.str v0),(3,.row 46),(13,vi v13),(14,vi v14)] [(46,5,[rc10 (ex17 v3)])] [(MkOb 1 [.val (.int .u8 92),.val (.int .u8 116)] 2 (rs11 [92,116]) ∧ GoodR (rs11 [92,116])),_,(AppOb 0 e8 v3 (List.flatMap e8 ([92,116]:List (UInt8))) (List.length ([92,116]:List (UInt8))) (rs11 (ex17 v3)) ∧ GoodR (rs11 (ex17 v3)))] (AllP.cons (mkOb (All8.cells (ns:=[92,116]) (.cons rfl (.cons rfl .nil))) rfl rfl (good8 _)) (AllP.cons hc4 (AllP.cons (appOb rfl rfl (good8 _)) AllP.nil))) (To.blockN (To.blockN (nt [0,3,13,14] [46] [(46,1003)] [0,3,13,14] [1003] [(0,.str v0),(3,.row 1003),(13,vi v13),(14,vi v14)] [(1003,5,[rc10 (ex17 v3)])] ?_)))
    cases h
    exact hQ
   ·refine Wp.seq (rc [] 1 [0,3,5,13,14,47] [1003] [(0,.str v0),(3,.row 1003),(ex15 v0 v14),(13,vi v13),(14,vi v14),(47,vb (!(quote_ok (ex20 v0 v14))))] [(1003,5,[rc10 v3])] (ok_quote_ok (ex20 v0 v14) _ rfl) (To.thenN (cn h (fun h=>?_) (fun h=>?_))))
    ·obtain ⟨hc6,h⟩:=chk_of h
     obtain ⟨hc7,h⟩:=chk_of h
     obtain ⟨hc8,h⟩:=chk_of h
     obtain ⟨hc9,h⟩:=chk_of h
     obtain ⟨x5,hx5,h⟩:=lett_of h
     refine Wp.regionD hm hΓ [(7,rs11 (ex12 v0 v14)),(8,.row 59),(1008,rs11 (v3 ++ (ex11 v0 v14)))] [0,3,13,14] [59] (K':=[(0,.str v0),(3,.row 59),(13,vi v13),(14,vi v14)]) (L':=[(59,5,[rc10 (v3 ++ (ex11 v0 v14))])]) (ob:=[(decide (0 ≤ (4:Int))) = true,(decide (0 ≤ (ex22 v0 v14) ∧ (ex22 v0 v14) < (List.length ([48,49,50,51,52,53,54,55,56,57,97,98,99,100,101,102]:List UInt8):Int))) = true,(decide (0 ≤ (ex21 v0 v14) ∧ (ex21 v0 v14) < (List.length ([48,49,50,51,52,53,54,55,56,57,97,98,99,100,101,102]:List UInt8):Int))) = true,(true = true → MkOb 1 [.val (.int .u8 92),.val (.int .u8 120),.val (.int .u8 (((([48,49,50,51,52,53,54,55,56,57,97,98,99,100,101,102]:List UInt8))[Int.toNat (ex22 v0 v14)]?.getD 0).toNat:Int)),.val (.int .u8 (((([48,49,50,51,52,53,54,55,56,57,97,98,99,100,101,102]:List UInt8))[Int.toNat (ex21 v0 v14)]?.getD 0).toNat:Int))] 4 (rs11 (ex12 v0 v14)) ∧ GoodR (rs11 (ex12 v0 v14))),(decide ((List.length v3 + List.length (ex11 v0 v14)) * (1 + 1) ≤ limit)) = true,(AppOb 0 e8 v3 (List.flatMap e8 (ex11 v0 v14)) (List.length (ex11 v0 v14)) (rs11 (v3 ++ (ex11 v0 v14))) ∧ GoodR (rs11 (v3 ++ (ex11 v0 v14))))]) (by kernel_rfl) (AllP.cons hc6 (AllP.cons hc7 (AllP.cons hc8 (AllP.cons (fun _=>mkOb (All8.cells (ns:=[92,120,(((([48,49,50,51,52,53,54,55,56,57,97,98,99,100,101,102]:List UInt8))[Int.toNat (ex22 v0 v14)]?.getD 0).toNat:Int),(((([48,49,50,51,52,53,54,55,56,57,97,98,99,100,101,102]:List UInt8))[Int.toNat (ex21 v0 v14)]?.getD 0).toNat:Int)]) (.cons rfl (.cons rfl (.cons rfl (.cons rfl .nil))))) rfl rfl (good8 _)) (AllP.cons hc9 (AllP.cons (appOb rfl rfl (good8 _)) AllP.nil)))))) (To.eq (K':=[(0,.str v0),(3,.row 59),(13,vi v13),(14,vi v14)]) (L':=[(59,5,[rc10 x5])]) (by cases hx5; rfl) (by cases hx5; rfl) (To.blockN (To.blockN (nt [0,3,13,14] [59] [(59,1003)] [0,3,13,14] [1003] [(0,.str v0),(3,.row 1003),(13,vi v13),(14,vi v14)] [(1003,5,[rc10 x5])] ?_))))
     cases h
     exact hQ
    ·obtain ⟨hc10,h⟩:=chk_of h
     refine rr [] [(2,rs11 ([((v0)[Int.toNat v14]?.getD 0)])),(3,rs11 (v3 ++ (ex14 v0 v14)))] [] [0,3,13,14] [23] [(0,.str v0),(3,.row 23),(13,vi v13),(14,vi v14)] [(23,5,[rc10 (v3 ++ (ex14 v0 v14))])] [(MkOb 1 [.val (.int .u8 (ex20 v0 v14))] 1 (rs11 ([((v0)[Int.toNat v14]?.getD 0)])) ∧ GoodR (rs11 ([((v0)[Int.toNat v14]?.getD 0)]))),_,(AppOb 0 e8 v3 (List.flatMap e8 (ex14 v0 v14)) (List.length (ex14 v0 v14)) (rs11 (v3 ++ (ex14 v0 v14))) ∧ GoodR (rs11 (v3 ++ (ex14 v0 v14))))] (AllP.cons (mkOb (All8.cells (ns:=[(ex20 v0 v14)]) (.cons rfl .nil)) rfl rfl (good8 _)) (AllP.cons hc10 (AllP.cons (appOb rfl rfl (good8 _)) AllP.nil))) (To.blockN (To.blockN (nt [0,3,13,14] [23] [(23,1003)] [0,3,13,14] [1003] [(0,.str v0),(3,.row 1003),(13,vi v13),(14,vi v14)] [(1003,5,[rc10 (v3 ++ (ex14 v0 v14))])] ?_)))
     cases h
     exact hQ
def quote_Double_l1 (n:Nat) (v0:List UInt8) (v13:Int):Nat → (List (UInt8)) → Int → Option ((List (UInt8)))
 | 0,_,_=>none
 | k + 1,v3,v14=>if (decide (v14 < v13)) = true then ((quote_Double_j2 n v0 v3 v13 v14).bind fun o1 =>
 quote_Double_l1 n v0 v13 k o1 (IntKind.wrap .i64 (v14 + 1)))
 else some v3
theorem ok_quote_Double_l1 (n:Nat) (v0:List UInt8) (v13:Int) {F0:Fz} {w0:Pt Tryz.prog} {Q:Exit → Act → World → Prop} (k:Nat):∀ (v3:List (UInt8)) (v14:Int) (o:(List (UInt8))),quote_Double_l1 n v0 v13 k v3 v14 = some o → To 65 F0 w0 [(3,.row 1003)] [(1003,5,[rc10 o])] (.exit 0) Q → WL Tryz.prog 65 F0 w0 [(0,.str v0),(3,.row 1003),(13,vi v13),(14,vi v14)] [(1003,5,[rc10 v3])] (cI (cI (cB (cA (cB (cB (cF Tryz.f42))))))) Q:=by
 induction k with
 | zero=>intro v3 v14 o h; cases h
 | succ k ih =>
  intro v3 v14 o h hQ
  rw [quote_Double_l1] at h
  refine WL.round (Wp.seq (rg [0,3,13,14,15] [1003] [(0,.str v0),(3,.row 1003),(13,vi v13),(14,vi v14),(15,vb (decide (v14 < v13)))] [(1003,5,[rc10 v3])] (To.thenN (Wp.seq (cn h (fun h=>?_) (fun h=>?_))))))
  ·refine Wp.skip (To.thenN (Wp.seq ?_))
   obtain ⟨o1,ho1,h⟩:=bind_of h
   refine kw [0,3,13,14] [1003] [(0,.str v0),(3,.row 1003),(13,vi v13),(14,vi v14)] [(1003,5,[rc10 v3])] (ok_quote_Double_j2 n v0 v3 v13 v14 o1 ho1 (To.thenN (rg [0,3,13,14] [1003] [(0,.str v0),(3,.row 1003),(13,vi v13),(14,vi (IntKind.wrap .i64 (v14 + 1)))] [(1003,5,[rc10 o1])] (kt [0,3,13,14] [1003] [(0,.str v0),(3,.row 1003),(13,vi v13),(14,vi (IntKind.wrap .i64 (v14 + 1)))] [(1003,5,[rc10 o1])] (To.again ?_)))))
   exact ih o1 (IntKind.wrap .i64 (v14 + 1)) _ h hQ
  ·refine Wp.exit (To.thenX (To.thenX (kt [3] [1003] [(3,.row 1003)] [(1003,5,[rc10 v3])] ?_)))
   cases h
   exact hQ
def quote_Double (n:Nat) (a0:List UInt8):Option ((List UInt8)) :=
 if (decide (0 ≤ (0:Int) ∧ (0:Int) ≤ (IntKind.wrap .i64 ((List.length a0:Int) + 2)))) = true then (if (decide ((IntKind.wrap .i64 ((List.length a0:Int) + 2)) * ((1 + 1:Nat):Int) ≤ (limit:Int))) = true then (if (decide ((List.length ([]:List (UInt8)) + List.length ([34]:List (UInt8))) * (1 + 1) ≤ limit)) = true then ((quote_Double_l1 n a0 (List.length a0:Int) n (([]:List (UInt8)) ++ ([34]:List (UInt8))) 0).bind fun o1 =>
 if (decide ((List.length o1 + List.length ([34]:List (UInt8))) * (1 + 1) ≤ limit)) = true then (some (o1 ++ ([34]:List (UInt8)))) else none) else none) else none) else none
theorem ok_quote_Double (n:Nat) (a0:List UInt8) (r:(List UInt8)) (h:quote_Double n a0 = some r):CallsX Tryz.prog 42 [.str a0] (.str r):=by
 unfold quote_Double at h
 refine xo Tryz.f42 rfl fun F0 w0 _=>?_
 refine Wp.seq (rg [0] [] [(0,.str a0)] [] (To.thenN (Wp.seq ?_)))
 obtain ⟨hc3,h⟩:=chk_of h
 obtain ⟨hc4,h⟩:=chk_of h
 obtain ⟨hc5,h⟩:=chk_of h
 refine rr [] [(3,rs11 []),(4,rs11 [34]),(5,rs11 (([]:List (UInt8)) ++ ([34]:List (UInt8))))] [] [0,3] [11] [(0,.str a0),(3,.row 11)] [(11,5,[rc10 (([]:List (UInt8)) ++ ([34]:List (UInt8)))])] [_,_,(MadeOb [.val (.int .u8 0)] (Int.toNat 0) (rs11 []) ∧ GoodR (rs11 [])),(MkOb 1 [.val (.int .u8 34)] 1 (rs11 [34]) ∧ GoodR (rs11 [34])),_,(AppOb 0 e8 ([]:List (UInt8)) (List.flatMap e8 ([34]:List (UInt8))) (List.length ([34]:List (UInt8))) (rs11 (([]:List (UInt8)) ++ ([34]:List (UInt8)))) ∧ GoodR (rs11 (([]:List (UInt8)) ++ ([34]:List (UInt8)))))] (AllP.cons hc3 (AllP.cons hc4 (AllP.cons (madeOb (by kernel_rfl) (good8 _)) (AllP.cons (mkOb (All8.cells (ns:=[34]) (.cons rfl .nil)) rfl rfl (good8 _)) (AllP.cons hc5 (AllP.cons (appOb rfl rfl (good8 _)) AllP.nil)))))) (To.thenN (Wp.seq (Wp.seq (rg [0,3,13,14] [11] [(0,.str a0),(3,.row 11),(13,vi (List.length a0:Int)),(14,vi 0)] [(11,5,[rc10 (([]:List (UInt8)) ++ ([34]:List (UInt8)))])] (To.thenN (Wp.block ?_))))))
 obtain ⟨o1,ho1,h⟩:=bind_of h
 refine nw [0,3,13,14] [11] [(11,1003)] [0,3,13,14] [1003] [(0,.str a0),(3,.row 1003),(13,vi (List.length a0:Int)),(14,vi 0)] [(1003,5,[rc10 (([]:List (UInt8)) ++ ([34]:List (UInt8)))])] (Wp.loopL (ok_quote_Double_l1 n a0 (List.length a0:Int) n (([]:List (UInt8)) ++ ([34]:List (UInt8))) 0 o1 ho1 (To.blockX (To.thenN (Wp.seq ?_)))))
 obtain ⟨hc2,h⟩:=chk_of h
 refine rr [] [(1,rs11 [34]),(2,rs11 (o1 ++ ([34]:List (UInt8)))),(3,.str (o1 ++ ([34]:List (UInt8))))] [] [2] [] [(2,.str (o1 ++ ([34]:List (UInt8))))] [] [(MkOb 1 [.val (.int .u8 34)] 1 (rs11 [34]) ∧ GoodR (rs11 [34])),_,(AppOb 0 e8 o1 (List.flatMap e8 ([34]:List (UInt8))) (List.length ([34]:List (UInt8))) (rs11 (o1 ++ ([34]:List (UInt8)))) ∧ GoodR (rs11 (o1 ++ ([34]:List (UInt8))))),(true = true → StrOb (List.flatMap e8 (o1 ++ ([34]:List (UInt8)))) (.str (o1 ++ ([34]:List (UInt8)))))] (AllP.cons (mkOb (All8.cells (ns:=[34]) (.cons rfl .nil)) rfl rfl (good8 _)) (AllP.cons hc2 (AllP.cons (appOb rfl rfl (good8 _)) (AllP.cons (fun _=>strOb (flat8 _)) AllP.nil)))) (To.thenN (Wp.ret ?_))
 cases h
 exact To.done hΓ (by kernel_rfl)
def env_Text_l1 (n:Nat) (v6:List (S_api_Var)) (v7:Int):Nat → Int → (List UInt8) → Option ((List UInt8))
 | 0,_,_=>none
 | k + 1,v8,b3=>if (decide (v8 < v7)) = true then (if (decide (0 ≤ v8 ∧ v8 < (List.length v6:Int))) = true then (if (decide (((List.length (((v6)[Int.toNat v8]?.getD (S_api_Var.mk [] [])).f_Key) + List.length ([61]:List UInt8):Nat):Int) ≤ 9223372036854775807)) = true then ((quote_Double n (((v6)[Int.toNat v8]?.getD (S_api_Var.mk [] [])).f_Val)).bind fun r1 =>
 if (decide (((List.length ((((v6)[Int.toNat v8]?.getD (S_api_Var.mk [] [])).f_Key) ++ [61]) + List.length r1:Nat):Int) ≤ 9223372036854775807)) = true then (if (decide (((List.length (((((v6)[Int.toNat v8]?.getD (S_api_Var.mk [] [])).f_Key) ++ [61]) ++ r1) + List.length ([10]:List UInt8):Nat):Int) ≤ 9223372036854775807)) = true then (if (decide ((List.length b3 + List.length ((((((v6)[Int.toNat v8]?.getD (S_api_Var.mk [] [])).f_Key) ++ [61]) ++ r1) ++ [10])) * (1 + 1) ≤ limit)) = true then (env_Text_l1 n v6 v7 k (IntKind.wrap .i64 (v8 + 1)) (b3 ++ ((((((v6)[Int.toNat v8]?.getD (S_api_Var.mk [] [])).f_Key) ++ [61]) ++ r1) ++ [10]))) else none) else none) else none) else none) else none)
 else some b3
theorem ok_env_Text_l1 (n:Nat) (v6:List (S_api_Var)) (v7:Int) {F0:Fz} {w0:Pt Tryz.prog} {Q:Exit → Act → World → Prop} (k:Nat):∀ (v8:Int) (b3:List UInt8) (o:(List UInt8)),env_Text_l1 n v6 v7 k v8 b3 = some o → To 23 F0 w0 [(3,.own 3 0)] [(3,77,[.opt 3,.srow 4181]),(4181,5,[rc10 o])] (.exit 0) Q → WL Tryz.prog 23 F0 w0 [(3,.own 3 0),(6,rs4 v6),(7,vi v7),(8,vi v8)] [(3,77,[.opt 3,.srow 4181]),(4181,5,[rc10 b3])] (cI (cI (cB (cA (cB (cB (cF Tryz.f21))))))) Q:=by
 induction k with
 | zero=>intro v8 b3 o h; cases h
 | succ k ih =>
  intro v8 b3 o h hQ
  rw [env_Text_l1] at h
  refine WL.round (Wp.seq (rg [3,6,7,8,9] [3,4181] [(3,.own 3 0),(6,rs4 v6),(7,vi v7),(8,vi v8),(9,vb (decide (v8 < v7)))] [(3,77,[.opt 3,.srow 4181]),(4181,5,[rc10 b3])] (To.thenN (Wp.seq (cn h (fun h=>?_) (fun h=>?_))))))
  ·refine Wp.skip (To.thenN (Wp.seq (Wp.block (Wp.seq ?_))))
   obtain ⟨hc6,h⟩:=chk_of h
   refine r0 [3,5,6,7,8] [3,5,4181] [(3,.own 3 0),(5,.own 5 0),(6,rs4 v6),(7,vi v7),(8,vi v8)] [(3,77,[.opt 3,.srow 4181]),(5,48,[.str ((ex5 v6 v8).f_Key),.str ((ex5 v6 v8).f_Val)]),(4181,5,[rc10 b3])] (AllP.cons hc6 AllP.nil) (To.thenN ?_)
   obtain ⟨hc3,h⟩:=chk_of h
   obtain ⟨r1,hr1,h⟩:=bind_of h
   obtain ⟨hc4,h⟩:=chk_of h
   obtain ⟨hc5,h⟩:=chk_of h
   obtain ⟨u2,h⟩:=chk_of h
   refine Wp.regionS hm hΓ 6 [] [(5,.str r1)] [(8,⟨[(1000000,3),(1000001,4181)],[(1000000,3),(1,4181)],[.own 1000000 0,.str (((((ex5 v6 v8).f_Key) ++ [61]) ++ r1) ++ [10])],[(1000000,77,[.opt 1000000,.srow 1000001]),(1000001,5,[rc10 b3])],.tup [vi (List.length (((((ex5 v6 v8).f_Key) ++ [61]) ++ r1) ++ [10]):Int),.val (.nilIface)],[(1000000,77,[.opt 1000000,.srow 1]),(1,5,[rc10 (b3 ++ (((((ex5 v6 v8).f_Key) ++ [61]) ++ r1) ++ [10]))])]⟩)] [3,6,7,8] [3,4181] (K':=[(3,.own 3 0),(6,rs4 v6),(7,vi v7),(8,vi v8)]) (L':=[(3,77,[.opt 3,.srow 4181]),(4181,5,[rc10 (b3 ++ (((((ex5 v6 v8).f_Key) ++ [61]) ++ r1) ++ [10]))])]) (ob:=[(decide (((List.length ((ex5 v6 v8).f_Key) + List.length ([61]:List UInt8):Nat):Int) ≤ 9223372036854775807)) = true,(true = true → CX Tryz.prog 42 [.str ((ex5 v6 v8).f_Val)] (.str r1)),(decide (((List.length (((ex5 v6 v8).f_Key) ++ [61]) + List.length r1:Nat):Int) ≤ 9223372036854775807)) = true,(decide (((List.length ((((ex5 v6 v8).f_Key) ++ [61]) ++ r1) + List.length ([10]:List UInt8):Nat):Int) ≤ 9223372036854775807)) = true,CbOb (CallsB Tryz.prog) 41 [.own 3 0,.str (((((ex5 v6 v8).f_Key) ++ [61]) ++ r1) ++ [10])] [some (77,[.opt 3,.srow 4181]),some (5,[rc10 b3])] ⟨[(1000000,3),(1000001,4181)],[(1000000,3),(1,4181)],[.own 1000000 0,.str (((((ex5 v6 v8).f_Key) ++ [61]) ++ r1) ++ [10])],[(1000000,77,[.opt 1000000,.srow 1000001]),(1000001,5,[rc10 b3])],.tup [vi (List.length (((((ex5 v6 v8).f_Key) ++ [61]) ++ r1) ++ [10]):Int),.val (.nilIface)],[(1000000,77,[.opt 1000000,.srow 1]),(1,5,[rc10 (b3 ++ (((((ex5 v6 v8).f_Key) ++ [61]) ++ r1) ++ [10]))])]⟩]) (by kernel_rfl) (AllP.cons hc3 (AllP.cons (fun _=>cx (ok_quote_Double n ((ex5 v6 v8).f_Val) _ hr1)) (AllP.cons hc4 (AllP.cons hc5 (AllP.cons (⟨writeString (l:=b3) (s:=(((((ex5 v6 v8).f_Key) ++ [61]) ++ r1) ++ [10])) u2,by kernel_rfl,by kernel_rfl⟩) AllP.nil))))) ?_
   refine To.blockN (To.thenN (rg [3,6,7,8] [3,4181] [(3,.own 3 0),(6,rs4 v6),(7,vi v7),(8,vi (IntKind.wrap .i64 (v8 + 1)))] [(3,77,[.opt 3,.srow 4181]),(4181,5,[rc10 (b3 ++ (((((ex5 v6 v8).f_Key) ++ [61]) ++ r1) ++ [10]))])] (kt [3,6,7,8] [3,4181] [(3,.own 3 0),(6,rs4 v6),(7,vi v7),(8,vi (IntKind.wrap .i64 (v8 + 1)))] [(3,77,[.opt 3,.srow 4181]),(4181,5,[rc10 (b3 ++ (((((ex5 v6 v8).f_Key) ++ [61]) ++ r1) ++ [10]))])] (To.again ?_))))
   exact ih (IntKind.wrap .i64 (v8 + 1)) (b3 ++ (((((ex5 v6 v8).f_Key) ++ [61]) ++ r1) ++ [10])) _ h hQ
  ·refine Wp.exit (To.thenX (To.thenX (kt [3] [3,4181] [(3,.own 3 0)] [(3,77,[.opt 3,.srow 4181]),(4181,5,[rc10 b3])] ?_)))
   cases h
   exact hQ
def env_Text (n:Nat) (a0:List (S_api_Var)):Option ((List UInt8)) :=
 (env_Text_l1 n a0 (List.length a0:Int) n 0 ([]:List (UInt8))).bind fun o1 =>
 some o1
theorem ok_env_Text (n:Nat) (a0:List (S_api_Var)) (r:(List UInt8)) (h:env_Text n a0 = some r):CallsX Tryz.prog 21 [rs4 a0] (.str r):=by
 unfold env_Text at h
 refine xo Tryz.f21 rfl fun F0 w0 _=>?_
 refine Wp.seq (rg [0] [] [(0,rs4 a0)] [] (To.thenN (Wp.seq (rg [0,3] [3] [(0,rs4 a0),(3,.own 3 0)] [(3,77,[.val (.pointer none),.val (.slice none 0 0)])] (To.pre (St.builderB 3 4181 5 (by decide) (by kernel_rfl) (L':=[(3,77,[.opt 3,.srow 4181])]) (by kernel_rfl)) (To.thenN (Wp.seq (Wp.seq (rg [3,6,7,8] [3,4181] [(3,.own 3 0),(6,rs4 a0),(7,vi (List.length a0:Int)),(8,vi 0)] [(3,77,[.opt 3,.srow 4181]),(4181,5,[rc10 []])] (To.thenN (Wp.block ?_)))))))))))
 obtain ⟨o1,ho1,h⟩:=bind_of h
 refine kw [3,6,7,8] [3,4181] [(3,.own 3 0),(6,rs4 a0),(7,vi (List.length a0:Int)),(8,vi 0)] [(3,77,[.opt 3,.srow 4181]),(4181,5,[rc10 []])] (Wp.loopL (ok_env_Text_l1 n a0 (List.length a0:Int) n 0 ([]:List (UInt8)) o1 ho1 (To.blockX (To.thenN (Wp.seq (rb [] 0 ⟨[(1000000,3),(1000001,4181)],[(1000000,3)],[.own 1000000 0],[(1000000,77,[.opt 1000000,.srow 1000001]),(1000001,5,[rc10 o1])],.str o1,[(1000000,77,[.opt 1000000,.hole])]⟩ [2] [] [(2,.str o1)] [] (bstring (l:=o1)) (To.thenN (Wp.ret ?_))))))))
 cases h
 exact To.done hΓ (by kernel_rfl)
def ref06_Good (a0:Int):Bool :=
 (bif (bif (decide (a0 ≥ 32)) then (decide (a0 ≤ 126)) else false) then true else (decide (a0 ≥ 128)))
theorem ok_ref06_Good (a0:Int) (r:Bool) (h:ref06_Good a0 = r):CallsX Tryz.prog 67 [.val (.int .u8 a0)] (vb r):=by
 unfold ref06_Good at h
 refine xo Tryz.f67 rfl fun F0 w0 _=>?_
 refine Wp.seq (rg [0] [] [(0,.val (.int .u8 a0))] [] (To.thenN (Wp.seq (rg [2] [] [(2,vb (bif (bif (decide (a0 ≥ 32)) then (decide (a0 ≤ 126)) else false) then true else (decide (a0 ≥ 128))))] [] (To.thenN (Wp.ret ?_))))))
 cases h
 exact To.done hΓ (by kernel_rfl)
def ref06_digit (a0:Int):Int :=
 if (decide (a0 < 10)) = true then ((IntKind.wrap .u8 (48 + a0)))
 else ((IntKind.wrap .u8 (87 + a0)))
theorem ok_ref06_digit (a0:Int) (r:Int) (h:ref06_digit a0 = r):CallsX Tryz.prog 68 [.val (.int .u8 a0)] (.val (.int .u8 r)):=by
 unfold ref06_digit at h
 refine xo Tryz.f68 rfl fun F0 w0 _=>?_
 refine Wp.seq (rg [0] [] [(0,.val (.int .u8 a0))] [] (To.thenN (Wp.seq (Wp.seq (rg [0,4] [] [(0,.val (.int .u8 a0)),(4,vb (decide (a0 < 10)))] [] (To.thenN (cn h (fun h=>?_) (fun h=>?_))))))))
 ·refine Wp.seq (rg [2] [] [(2,.val (.int .u8 (IntKind.wrap .u8 (48 + a0))))] [] (To.thenN (Wp.ret (To.thenR ?_))))
  cases h
  exact To.done hΓ (by kernel_rfl)
 ·refine Wp.skip (To.thenN (Wp.seq (rg [2] [] [(2,.val (.int .u8 (IntKind.wrap .u8 (87 + a0))))] [] (To.thenN (Wp.ret ?_)))))
  cases h
  exact To.done hΓ (by kernel_rfl)
def ref06_Double_j2 (n:Nat) (v0:List UInt8) (v3:List (UInt8)) (v4:Int):Option ((List (UInt8))) :=
 if (decide (0 ≤ v4 ∧ v4 < (List.length v0:Int))) = true then (lett ((bif ((((v0)[Int.toNat v4]?.getD 0).toNat:Int) == 34) then true else ((((v0)[Int.toNat v4]?.getD 0).toNat:Int) == 92)):Bool) fun x1 =>
 if x1 = true then (if (decide ((List.length v3 + List.length ([92,((v0)[Int.toNat v4]?.getD 0)]:List (UInt8))) * (1 + 1) ≤ limit)) = true then (some (v3 ++ ([92,((v0)[Int.toNat v4]?.getD 0)]:List (UInt8)))) else none)
 else (if ((((v0)[Int.toNat v4]?.getD 0).toNat:Int) == 10) = true then (if (decide ((List.length v3 + List.length ([92,110]:List (UInt8))) * (1 + 1) ≤ limit)) = true then (some (v3 ++ ([92,110]:List (UInt8)))) else none)
 else (if ((((v0)[Int.toNat v4]?.getD 0).toNat:Int) == 9) = true then (if (decide ((List.length v3 + List.length ([92,116]:List (UInt8))) * (1 + 1) ≤ limit)) = true then (some (v3 ++ ([92,116]:List (UInt8)))) else none)
 else (if (!(ref06_Good (((v0)[Int.toNat v4]?.getD 0).toNat:Int))) = true then (if ((16 != 0)) = true then (lett (ref06_digit (IntKind.wrap .u8 (Int.tdiv (((v0)[Int.toNat v4]?.getD 0).toNat:Int) 16))) fun r5 =>
 lett (ref06_digit (Int.tmod (((v0)[Int.toNat v4]?.getD 0).toNat:Int) 16)) fun r6 =>
 if (decide (0 ≤ r5 ∧ r5 < 256)) = true then (if (decide (0 ≤ r6 ∧ r6 < 256)) = true then (if (decide ((List.length v3 + List.length ([92,120,(UInt8.ofNat (Int.toNat r5)),(UInt8.ofNat (Int.toNat r6))]:List (UInt8))) * (1 + 1) ≤ limit)) = true then (some (v3 ++ ([92,120,(UInt8.ofNat (Int.toNat r5)),(UInt8.ofNat (Int.toNat r6))]:List (UInt8)))) else none) else none) else none) else none)
 else (if (decide ((List.length v3 + List.length ([((v0)[Int.toNat v4]?.getD 0)]:List (UInt8))) * (1 + 1) ≤ limit)) = true then (some (v3 ++ ([((v0)[Int.toNat v4]?.getD 0)]:List (UInt8)))) else none))))) else none
theorem ok_ref06_Double_j2 (n:Nat) (v0:List UInt8) (v3:List (UInt8)) (v4:Int) (o:(List (UInt8))) (h:ref06_Double_j2 n v0 v3 v4 = some o) {F0:Fz} {w0:Pt Tryz.prog} {Q:Exit → Act → World → Prop} (hQ:To 57 F0 w0 [(0,.str v0),(3,.row 1003),(4,vi v4)] [(1003,5,[rc10 o])] .normal Q):Wp Tryz.prog 57 F0 w0 [(0,.str v0),(3,.row 1003),(4,vi v4)] [(1003,5,[rc10 v3])] (cA (cB (cI (cI (cB (cA (cB (cB (cF Tryz.f44))))))))) Q:=by
 unfold ref06_Double_j2 at h
 refine Wp.block (Wp.seq ?_)
 obtain ⟨hc12,h⟩:=chk_of h
 refine r0 [0,3,4,5] [1003] [(0,.str v0),(3,.row 1003),(4,vi v4),(5,.val (.int .u8 (ex7 v0 v4)))] [(1003,5,[rc10 v3])] (AllP.cons hc12 AllP.nil) (To.thenN (Wp.seq ?_))
 obtain ⟨x1,hx1,h⟩:=lett_of h
 refine rg [0,3,4,5,21] [1003] [(0,.str v0),(3,.row 1003),(4,vi v4),(5,.val (.int .u8 (ex7 v0 v4))),(21,vb (bif ((ex7 v0 v4) == 34) then true else ((ex7 v0 v4) == 92)))] [(1003,5,[rc10 v3])] (To.eq (K':=[(0,.str v0),(3,.row 1003),(4,vi v4),(5,.val (.int .u8 (ex7 v0 v4))),(21,vb x1)]) (L':=[(1003,5,[rc10 v3])]) (by cases hx1; rfl) (by cases hx1; rfl) (To.thenN (cn h (fun h=>?_) (fun h=>?_))))
 ·obtain ⟨hc2,h⟩:=chk_of h
  refine rr [] [(2,rs11 ([92,((v0)[Int.toNat v4]?.getD 0)])),(3,rs11 (v3 ++ (ex13 v0 v4)))] [] [0,3,4] [25] [(0,.str v0),(3,.row 25),(4,vi v4)] [(25,5,[rc10 (v3 ++ (ex13 v0 v4))])] [(MkOb 1 [.val (.int .u8 92),.val (.int .u8 (ex7 v0 v4))] 2 (rs11 ([92,((v0)[Int.toNat v4]?.getD 0)])) ∧ GoodR (rs11 ([92,((v0)[Int.toNat v4]?.getD 0)]))),_,(AppOb 0 e8 v3 (List.flatMap e8 (ex13 v0 v4)) (List.length (ex13 v0 v4)) (rs11 (v3 ++ (ex13 v0 v4))) ∧ GoodR (rs11 (v3 ++ (ex13 v0 v4))))] (AllP.cons (mkOb (All8.cells (ns:=[92,(ex7 v0 v4)]) (.cons rfl (.cons rfl .nil))) rfl rfl (good8 _)) (AllP.cons hc2 (AllP.cons (appOb rfl rfl (good8 _)) AllP.nil))) (To.blockN (nt [0,3,4] [25] [(25,1003)] [0,3,4] [1003] [(0,.str v0),(3,.row 1003),(4,vi v4)] [(1003,5,[rc10 (v3 ++ (ex13 v0 v4))])] ?_))
  cases h
  exact hQ
 ·refine Wp.seq (rg [0,3,4,5,27] [1003] [(0,.str v0),(3,.row 1003),(4,vi v4),(5,.val (.int .u8 (ex7 v0 v4))),(27,vb ((ex7 v0 v4) == 10))] [(1003,5,[rc10 v3])] (To.thenN (cn h (fun h=>?_) (fun h=>?_))))
  ·obtain ⟨hc3,h⟩:=chk_of h
   refine rr [] [(1,rs11 [92,110]),(2,rs11 (ex16 v3))] [] [0,3,4] [30] [(0,.str v0),(3,.row 30),(4,vi v4)] [(30,5,[rc10 (ex16 v3)])] [(MkOb 1 [.val (.int .u8 92),.val (.int .u8 110)] 2 (rs11 [92,110]) ∧ GoodR (rs11 [92,110])),_,(AppOb 0 e8 v3 (List.flatMap e8 ([92,110]:List (UInt8))) (List.length ([92,110]:List (UInt8))) (rs11 (ex16 v3)) ∧ GoodR (rs11 (ex16 v3)))] (AllP.cons (mkOb (All8.cells (ns:=[92,110]) (.cons rfl (.cons rfl .nil))) rfl rfl (good8 _)) (AllP.cons hc3 (AllP.cons (appOb rfl rfl (good8 _)) AllP.nil))) (To.blockN (nt [0,3,4] [30] [(30,1003)] [0,3,4] [1003] [(0,.str v0),(3,.row 1003),(4,vi v4)] [(1003,5,[rc10 (ex16 v3)])] ?_))
   cases h
   exact hQ
  ·refine Wp.seq (rg [0,3,4,5,32] [1003] [(0,.str v0),(3,.row 1003),(4,vi v4),(5,.val (.int .u8 (ex7 v0 v4))),(32,vb ((ex7 v0 v4) == 9))] [(1003,5,[rc10 v3])] (To.thenN (cn h (fun h=>?_) (fun h=>?_))))
   ·obtain ⟨hc4,h⟩:=chk_of h
    refine rr [] [(1,rs11 [92,116]),(2,rs11 (ex17 v3))] [] [0,3,4] [35] [(0,.str v0),(3,.row 35),(4,vi v4)] [(35,5,[rc10 (ex17 v3)])] [(MkOb 1 [.val (.int .u8 92),.val (.int .u8 116)] 2 (rs11 [92,116]) ∧ GoodR (rs11 [92,116])),_,(AppOb 0 e8 v3 (List.flatMap e8 ([92,116]:List (UInt8))) (List.length ([92,116]:List (UInt8))) (rs11 (ex17 v3)) ∧ GoodR (rs11 (ex17 v3)))] (AllP.cons (mkOb (All8.cells (ns:=[92,116]) (.cons rfl (.cons rfl .nil))) rfl rfl (good8 _)) (AllP.cons hc4 (AllP.cons (appOb rfl rfl (good8 _)) AllP.nil))) (To.blockN (nt [0,3,4] [35] [(35,1003)] [0,3,4] [1003] [(0,.str v0),(3,.row 1003),(4,vi v4)] [(1003,5,[rc10 (ex17 v3)])] ?_))
    cases h
    exact hQ
   ·refine Wp.seq (rc [] 1 [0,3,4,5,38] [1003] [(0,.str v0),(3,.row 1003),(4,vi v4),(5,.val (.int .u8 (ex7 v0 v4))),(38,vb (!(ref06_Good (ex7 v0 v4))))] [(1003,5,[rc10 v3])] (ok_ref06_Good (ex7 v0 v4) _ rfl) (To.thenN (cn h (fun h=>?_) (fun h=>?_))))
    ·obtain ⟨hc9,h⟩:=chk_of h
     obtain ⟨r5,hr5,h⟩:=lett_of h
     obtain ⟨r6,hr6,h⟩:=lett_of h
     obtain ⟨u7,h⟩:=chk_of h
     obtain ⟨u8,h⟩:=chk_of h
     obtain ⟨hc10,h⟩:=chk_of h
     refine rr [] [(3,.val (.int .u8 r5)),(6,.val (.int .u8 r6)),(7,rs11 [92,120,(UInt8.ofNat (Int.toNat r5)),(UInt8.ofNat (Int.toNat r6))]),(8,rs11 (v3 ++ ([92,120,(UInt8.ofNat (Int.toNat r5)),(UInt8.ofNat (Int.toNat r6))]:List (UInt8))))] [] [0,3,4] [47] [(0,.str v0),(3,.row 47),(4,vi v4)] [(47,5,[rc10 (v3 ++ ([92,120,(UInt8.ofNat (Int.toNat r5)),(UInt8.ofNat (Int.toNat r6))]:List (UInt8)))])] [_,_,_,_,(MkOb 1 [.val (.int .u8 92),.val (.int .u8 120),.val (.int .u8 r5),.val (.int .u8 r6)] 4 (rs11 [92,120,(UInt8.ofNat (Int.toNat r5)),(UInt8.ofNat (Int.toNat r6))]) ∧ GoodR (rs11 [92,120,(UInt8.ofNat (Int.toNat r5)),(UInt8.ofNat (Int.toNat r6))])),_,(AppOb 0 e8 v3 (List.flatMap e8 ([92,120,(UInt8.ofNat (Int.toNat r5)),(UInt8.ofNat (Int.toNat r6))]:List (UInt8))) (List.length ([92,120,(UInt8.ofNat (Int.toNat r5)),(UInt8.ofNat (Int.toNat r6))]:List (UInt8))) (rs11 (v3 ++ ([92,120,(UInt8.ofNat (Int.toNat r5)),(UInt8.ofNat (Int.toNat r6))]:List (UInt8)))) ∧ GoodR (rs11 (v3 ++ ([92,120,(UInt8.ofNat (Int.toNat r5)),(UInt8.ofNat (Int.toNat r6))]:List (UInt8)))))] (AllP.cons hc9 (AllP.cons (c1 (ok_ref06_digit (IntKind.wrap .u8 (Int.tdiv (ex7 v0 v4) 16)) _ hr5)) (AllP.cons hc9 (AllP.cons (c1 (ok_ref06_digit (Int.tmod (ex7 v0 v4) 16) _ hr6)) (AllP.cons (mkOb (All8.cells (ns:=[92,120,r5,r6]) (.cons rfl (.cons rfl (.cons (u8_of u7) (.cons (u8_of u8) .nil))))) rfl rfl (good8 _)) (AllP.cons hc10 (AllP.cons (appOb rfl rfl (good8 _)) AllP.nil))))))) (To.blockN (nt [0,3,4] [47] [(47,1003)] [0,3,4] [1003] [(0,.str v0),(3,.row 1003),(4,vi v4)] [(1003,5,[rc10 (v3 ++ ([92,120,(UInt8.ofNat (Int.toNat r5)),(UInt8.ofNat (Int.toNat r6))]:List (UInt8)))])] ?_))
     cases h
     exact hQ
    ·obtain ⟨hc11,h⟩:=chk_of h
     refine rr [] [(2,rs11 ([((v0)[Int.toNat v4]?.getD 0)])),(3,rs11 (v3 ++ (ex14 v0 v4)))] [] [0,3,4] [51] [(0,.str v0),(3,.row 51),(4,vi v4)] [(51,5,[rc10 (v3 ++ (ex14 v0 v4))])] [(MkOb 1 [.val (.int .u8 (ex7 v0 v4))] 1 (rs11 ([((v0)[Int.toNat v4]?.getD 0)])) ∧ GoodR (rs11 ([((v0)[Int.toNat v4]?.getD 0)]))),_,(AppOb 0 e8 v3 (List.flatMap e8 (ex14 v0 v4)) (List.length (ex14 v0 v4)) (rs11 (v3 ++ (ex14 v0 v4))) ∧ GoodR (rs11 (v3 ++ (ex14 v0 v4))))] (AllP.cons (mkOb (All8.cells (ns:=[(ex7 v0 v4)]) (.cons rfl .nil)) rfl rfl (good8 _)) (AllP.cons hc11 (AllP.cons (appOb rfl rfl (good8 _)) AllP.nil))) (To.blockN (nt [0,3,4] [51] [(51,1003)] [0,3,4] [1003] [(0,.str v0),(3,.row 1003),(4,vi v4)] [(1003,5,[rc10 (v3 ++ (ex14 v0 v4))])] ?_))
     cases h
     exact hQ
def ref06_Double_l1 (n:Nat) (v0:List UInt8):Nat → (List (UInt8)) → Int → Option ((List (UInt8)))
 | 0,_,_=>none
 | k + 1,v3,v4=>if (decide (v4 < (List.length v0:Int))) = true then ((ref06_Double_j2 n v0 v3 v4).bind fun o1 =>
 ref06_Double_l1 n v0 k o1 (IntKind.wrap .i64 (v4 + 1)))
 else some v3
theorem ok_ref06_Double_l1 (n:Nat) (v0:List UInt8) {F0:Fz} {w0:Pt Tryz.prog} {Q:Exit → Act → World → Prop} (k:Nat):∀ (v3:List (UInt8)) (v4:Int) (o:(List (UInt8))),ref06_Double_l1 n v0 k v3 v4 = some o → To 57 F0 w0 [(3,.row 1003)] [(1003,5,[rc10 o])] (.exit 0) Q → WL Tryz.prog 57 F0 w0 [(0,.str v0),(3,.row 1003),(4,vi v4)] [(1003,5,[rc10 v3])] (cI (cI (cB (cA (cB (cB (cF Tryz.f44))))))) Q:=by
 induction k with
 | zero=>intro v3 v4 o h; cases h
 | succ k ih =>
  intro v3 v4 o h hQ
  rw [ref06_Double_l1] at h
  refine WL.round (Wp.seq (Wp.seq (rg [0,3,4,10] [1003] [(0,.str v0),(3,.row 1003),(4,vi v4),(10,vb (decide (v4 < (List.length v0:Int))))] [(1003,5,[rc10 v3])] (To.thenN (cn h (fun h=>?_) (fun h=>?_))))))
  ·refine Wp.skip (To.thenN (Wp.seq ?_))
   obtain ⟨o1,ho1,h⟩:=bind_of h
   refine kw [0,3,4] [1003] [(0,.str v0),(3,.row 1003),(4,vi v4)] [(1003,5,[rc10 v3])] (ok_ref06_Double_j2 n v0 v3 v4 o1 ho1 (To.thenN (rg [0,3,4] [1003] [(0,.str v0),(3,.row 1003),(ex9 v4)] [(1003,5,[rc10 o1])] (kt [0,3,4] [1003] [(0,.str v0),(3,.row 1003),(ex9 v4)] [(1003,5,[rc10 o1])] (To.again ?_)))))
   exact ih o1 (IntKind.wrap .i64 (v4 + 1)) _ h hQ
  ·refine Wp.exit (To.thenX (To.thenX (kt [3] [1003] [(3,.row 1003)] [(1003,5,[rc10 v3])] ?_)))
   cases h
   exact hQ
def ref06_Double (n:Nat) (a0:List UInt8):Option ((List UInt8)) :=
 (ref06_Double_l1 n a0 n ([34]:List (UInt8)) 0).bind fun o1 =>
 if (decide ((List.length o1 + List.length ([34]:List (UInt8))) * (1 + 1) ≤ limit)) = true then (some (o1 ++ ([34]:List (UInt8)))) else none
theorem ok_ref06_Double (n:Nat) (a0:List UInt8) (r:(List UInt8)) (h:ref06_Double n a0 = some r):CallsX Tryz.prog 44 [.str a0] (.str r):=by
 unfold ref06_Double at h
 refine xo Tryz.f44 rfl fun F0 w0 _=>?_
 refine Wp.seq (rg [0] [] [(0,.str a0)] [] (To.thenN (Wp.seq (rr [] [(0,rs11 [34])] [] [0,3] [6] [(0,.str a0),(3,.row 6)] [(6,5,[rc10 [34]])] [(MkOb 1 [.val (.int .u8 34)] 1 (rs11 [34]) ∧ GoodR (rs11 [34]))] (AllP.cons (mkOb (All8.cells (ns:=[34]) (.cons rfl .nil)) rfl rfl (good8 _)) AllP.nil) (To.thenN (Wp.seq (Wp.seq (rg [0,3,4] [6] [(0,.str a0),(3,.row 6),(4,vi 0)] [(6,5,[rc10 [34]])] (To.thenN (Wp.block ?_))))))))))
 obtain ⟨o1,ho1,h⟩:=bind_of h
 refine nw [0,3,4] [6] [(6,1003)] [0,3,4] [1003] [(0,.str a0),(3,.row 1003),(4,vi 0)] [(1003,5,[rc10 [34]])] (Wp.loopL (ok_ref06_Double_l1 n a0 n ([34]:List (UInt8)) 0 o1 ho1 (To.blockX (To.thenN (Wp.seq ?_)))))
 obtain ⟨hc2,h⟩:=chk_of h
 refine rr [] [(1,rs11 [34]),(2,rs11 (o1 ++ ([34]:List (UInt8))))] [] [3] [54] [(3,.row 54)] [(54,5,[rc10 (o1 ++ ([34]:List (UInt8)))])] [(MkOb 1 [.val (.int .u8 34)] 1 (rs11 [34]) ∧ GoodR (rs11 [34])),_,(AppOb 0 e8 o1 (List.flatMap e8 ([34]:List (UInt8))) (List.length ([34]:List (UInt8))) (rs11 (o1 ++ ([34]:List (UInt8)))) ∧ GoodR (rs11 (o1 ++ ([34]:List (UInt8)))))] (AllP.cons (mkOb (All8.cells (ns:=[34]) (.cons rfl .nil)) rfl rfl (good8 _)) (AllP.cons hc2 (AllP.cons (appOb rfl rfl (good8 _)) AllP.nil))) (To.thenN (Wp.seq (rr [] [(1,.str (o1 ++ ([34]:List (UInt8))))] [] [2] [] [(2,.str (o1 ++ ([34]:List (UInt8))))] [] [(true = true → StrOb (List.flatMap e8 (o1 ++ ([34]:List (UInt8)))) (.str (o1 ++ ([34]:List (UInt8)))))] (AllP.cons (fun _=>strOb (flat8 _)) AllP.nil) (To.thenN (Wp.ret ?_)))))
 cases h
 exact To.done hΓ (by kernel_rfl)
def ref12_Text_l1 (n:Nat) (v0:List (S_api_Var)):Nat → (List UInt8) → Int → Option ((List UInt8))
 | 0,_,_=>none
 | k + 1,v3,v4=>if (decide (v4 < (List.length v0:Int))) = true then (if (decide (0 ≤ v4 ∧ v4 < (List.length v0:Int))) = true then (if (decide (((List.length v3 + List.length (((v0)[Int.toNat v4]?.getD (S_api_Var.mk [] [])).f_Key):Nat):Int) ≤ 9223372036854775807)) = true then (if (decide (((List.length (v3 ++ (((v0)[Int.toNat v4]?.getD (S_api_Var.mk [] [])).f_Key)) + List.length ([61]:List UInt8):Nat):Int) ≤ 9223372036854775807)) = true then ((ref06_Double n (((v0)[Int.toNat v4]?.getD (S_api_Var.mk [] [])).f_Val)).bind fun r1 =>
 if (decide (((List.length ((v3 ++ (((v0)[Int.toNat v4]?.getD (S_api_Var.mk [] [])).f_Key)) ++ [61]) + List.length r1:Nat):Int) ≤ 9223372036854775807)) = true then (if (decide (((List.length (((v3 ++ (((v0)[Int.toNat v4]?.getD (S_api_Var.mk [] [])).f_Key)) ++ [61]) ++ r1) + List.length ([10]:List UInt8):Nat):Int) ≤ 9223372036854775807)) = true then (ref12_Text_l1 n v0 k ((((v3 ++ (((v0)[Int.toNat v4]?.getD (S_api_Var.mk [] [])).f_Key)) ++ [61]) ++ r1) ++ [10]) (IntKind.wrap .i64 (v4 + 1))) else none) else none) else none) else none) else none)
 else some v3
theorem ok_ref12_Text_l1 (n:Nat) (v0:List (S_api_Var)) {F0:Fz} {w0:Pt Tryz.prog} {Q:Exit → Act → World → Prop} (k:Nat):∀ (v3:List UInt8) (v4:Int) (o:(List UInt8)),ref12_Text_l1 n v0 k v3 v4 = some o → To 28 F0 w0 [(3,.str o)] [] (.exit 0) Q → WL Tryz.prog 28 F0 w0 [(0,rs4 v0),(3,.str v3),(4,vi v4)] [] (cI (cI (cB (cA (cB (cB (cF Tryz.f22))))))) Q:=by
 induction k with
 | zero=>intro v3 v4 o h; cases h
 | succ k ih =>
  intro v3 v4 o h hQ
  rw [ref12_Text_l1] at h
  refine WL.round (Wp.seq (Wp.seq (rg [0,3,4,8] [] [(0,rs4 v0),(3,.str v3),(4,vi v4),(8,vb (decide (v4 < (List.length v0:Int))))] [] (To.thenN (cn h (fun h=>?_) (fun h=>?_))))))
  ·refine Wp.skip (To.thenN (Wp.seq (Wp.block ?_)))
   obtain ⟨hc2,h⟩:=chk_of h
   obtain ⟨hc3,h⟩:=chk_of h
   obtain ⟨hc4,h⟩:=chk_of h
   obtain ⟨r1,hr1,h⟩:=bind_of h
   obtain ⟨hc5,h⟩:=chk_of h
   obtain ⟨hc6,h⟩:=chk_of h
   refine Wp.regionD hm hΓ [(13,.str r1)] [0,3,4] [] (K':=[(0,rs4 v0),(3,.str ((((v3 ++ ((ex5 v0 v4).f_Key)) ++ [61]) ++ r1) ++ [10])),(4,vi v4)]) (L':=[]) (ob:=[(ex6 v4 v0) = true,(decide (((List.length v3 + List.length ((ex5 v0 v4).f_Key):Nat):Int) ≤ 9223372036854775807)) = true,(decide (((List.length (v3 ++ ((ex5 v0 v4).f_Key)) + List.length ([61]:List UInt8):Nat):Int) ≤ 9223372036854775807)) = true,(ex6 v4 v0) = true,(true = true → CX Tryz.prog 44 [.str ((ex5 v0 v4).f_Val)] (.str r1)),(decide (((List.length ((v3 ++ ((ex5 v0 v4).f_Key)) ++ [61]) + List.length r1:Nat):Int) ≤ 9223372036854775807)) = true,(decide (((List.length (((v3 ++ ((ex5 v0 v4).f_Key)) ++ [61]) ++ r1) + List.length ([10]:List UInt8):Nat):Int) ≤ 9223372036854775807)) = true]) (by kernel_rfl) (AllP.cons hc2 (AllP.cons hc3 (AllP.cons hc4 (AllP.cons hc2 (AllP.cons (fun _=>cx (ok_ref06_Double n ((ex5 v0 v4).f_Val) _ hr1)) (AllP.cons hc5 (AllP.cons hc6 AllP.nil))))))) (To.blockN (To.thenN (rg [0,3,4] [] [(0,rs4 v0),(3,.str ((((v3 ++ ((ex5 v0 v4).f_Key)) ++ [61]) ++ r1) ++ [10])),(ex9 v4)] [] (kt [0,3,4] [] [(0,rs4 v0),(3,.str ((((v3 ++ ((ex5 v0 v4).f_Key)) ++ [61]) ++ r1) ++ [10])),(ex9 v4)] [] (To.again ?_)))))
   exact ih ((((v3 ++ ((ex5 v0 v4).f_Key)) ++ [61]) ++ r1) ++ [10]) (IntKind.wrap .i64 (v4 + 1)) _ h hQ
  ·refine Wp.exit (To.thenX (To.thenX (kt [3] [] [(3,.str v3)] [] ?_)))
   cases h
   exact hQ
def ref12_Text (n:Nat) (a0:List (S_api_Var)):Option ((List UInt8)) :=
 (ref12_Text_l1 n a0 n [] 0).bind fun o1 =>
 some o1
theorem ok_ref12_Text (n:Nat) (a0:List (S_api_Var)) (r:(List UInt8)) (h:ref12_Text n a0 = some r):CallsX Tryz.prog 22 [rs4 a0] (.str r):=by
 unfold ref12_Text at h
 refine xo Tryz.f22 rfl fun F0 w0 _=>?_
 refine Wp.seq (rg [0] [] [(0,rs4 a0)] [] (To.thenN (Wp.seq (rg [0,3] [] [(0,rs4 a0),(3,.str [])] [] (To.thenN (Wp.seq (Wp.seq (rg [0,3,4] [] [(0,rs4 a0),(3,.str []),(4,vi 0)] [] (To.thenN (Wp.block ?_))))))))))
 obtain ⟨o1,ho1,h⟩:=bind_of h
 refine kw [0,3,4] [] [(0,rs4 a0),(3,.str []),(4,vi 0)] [] (Wp.loopL (ok_ref12_Text_l1 n a0 n [] 0 o1 ho1 (To.blockX (To.thenN (Wp.seq (rg [2] [] [(2,.str o1)] [] (To.thenN (Wp.ret ?_))))))))
 cases h
 exact To.done hΓ (by kernel_rfl)
def law12_EnvGathers (n:Nat) (a0:List (S_api_Var)) (a1:List (S_api_Var)) (a2:List UInt8):Option (Bool) :=
 (law12_Few n a0 100).bind fun r1 =>
 ((if ((!r1) == false) = true then law12_Few n a1 100 else some false)).bind fun r2 =>
 if (bif (!r1) then true else (!r2)) = true then ((law12_awake n).bind fun r3 =>
 some r3)
 else ((ref12_Of n a0).bind fun r4 =>
 (ref12_Of n a1).bind fun r5 =>
 if (decide ((List.length ([]:List (S_api_Var)) + List.length r4) * (32 + 1) ≤ limit)) = true then (if (decide ((List.length (([]:List (S_api_Var)) ++ r4) + List.length r5) * (32 + 1) ≤ limit)) = true then ((env_Get n r4 a2).bind fun r6 =>
 (ref12_Last n r4 a2).bind fun r7 =>
 (env_Of n a0).bind fun r8 =>
 (ref12_Same n r8 r4).bind fun r9 =>
 ((if (r9 == true) = true then env_Over n r4 r5 else some [])).bind fun r10 =>
 ((if (r9 == true) = true then ref12_Of n ((([]:List (S_api_Var)) ++ r4) ++ r5) else some [])).bind fun r11 =>
 ((if (r9 == true) = true then ref12_Same n r10 r11 else some false)).bind fun r12 =>
 ((if ((bif (bif (bif r9 then r12 else false) then (r6.1 == r7.1) else false) then (r6.2 == r7.2) else false) == true) = true then env_Text n r4 else some [])).bind fun r13 =>
 ((if ((bif (bif (bif r9 then r12 else false) then (r6.1 == r7.1) else false) then (r6.2 == r7.2) else false) == true) = true then ref12_Text n r4 else some [])).bind fun r14 =>
 ((if ((bif (bif (bif (bif r9 then r12 else false) then (r6.1 == r7.1) else false) then (r6.2 == r7.2) else false) then (r13 == r14) else false) == true) = true then law12_awake n else some false)).bind fun r15 =>
 lett ((bif (bif (bif (bif (bif r9 then r12 else false) then (r6.1 == r7.1) else false) then (r6.2 == r7.2) else false) then (r13 == r14) else false) then r15 else false):Bool) fun x16 =>
 some x16) else none) else none)
theorem ok_law12_EnvGathers (n:Nat) (a0:List (S_api_Var)) (a1:List (S_api_Var)) (a2:List UInt8) (r:Bool) (h:law12_EnvGathers n a0 a1 a2 = some r):CallsX Tryz.prog 4 [rs4 a0,rs4 a1,.str a2] (vb r):=by
 unfold law12_EnvGathers at h
 refine xo Tryz.f4 rfl fun F0 w0 _=>?_
 refine Wp.seq (rg [0,1,2] [] [(0,rs4 a0),(1,rs4 a1),(2,.str a2)] [] (To.thenN (Wp.seq (Wp.seq ?_))))
 obtain ⟨r1,hr1,h⟩:=bind_of h
 obtain ⟨r2,hr2,h⟩:=bind_of h
 refine rr [] [(1,vb r1),(5,vb r2)] [] [0,1,2,21] [] [(0,rs4 a0),(1,rs4 a1),(2,.str a2),(21,vb (bif (!r1) then true else (!r2)))] [] [_,(((!r1) == false) = true → CX Tryz.prog 6 [rs4 a1,vi 100] (vb r2))] (AllP.cons (c1 (ok_law12_Few n a0 100 _ hr1)) (AllP.cons (fun hg=>cx (ok_law12_Few n a1 100 _ (if_t hg hr2))) AllP.nil)) (To.thenN (cn h (fun h=>?_) (fun h=>?_)))
 ·refine Wp.seq ?_
  obtain ⟨r3,hr3,h⟩:=bind_of h
  refine rc [] 0 [6] [] [(6,vb r3)] [] (ok_law12_awake n  _ hr3) (To.thenN (Wp.ret (To.thenR ?_)))
  cases h
  exact To.done hΓ (by kernel_rfl)
 ·refine Wp.skip (To.thenN (Wp.seq ?_))
  obtain ⟨r4,hr4,h⟩:=bind_of h
  obtain ⟨r5,hr5,h⟩:=bind_of h
  refine rr [] [(1,rs4 r4),(3,rs4 r5)] [] [0,2,7,8] [] [(0,rs4 a0),(2,.str a2),(7,rs4 r4),(8,rs4 r5)] [] [_,_] (AllP.cons (c1 (ok_ref12_Of n a0 _ hr4)) (AllP.cons (c1 (ok_ref12_Of n a1 _ hr5)) AllP.nil)) (To.thenN (Wp.seq (rr [] [(0,rs4 [])] [] [0,2,7,8,9] [27] [(0,rs4 a0),(2,.str a2),(7,rs4 r4),(8,rs4 r5),(9,.row 27)] [(27,48,[rc3 []])] [(MkOb 2 [] 0 (rs4 []) ∧ GoodR (rs4 []))] (AllP.cons (mkOb (by kernel_rfl) rfl (by kernel_rfl) (good_E_api_Var _)) AllP.nil) (To.thenN (Wp.seq ?_)))))
  obtain ⟨hc18,h⟩:=chk_of h
  refine rr [] [(2,rs4 (([]:List (S_api_Var)) ++ r4))] [] [0,2,7,8,9] [30] [(0,rs4 a0),(2,.str a2),(7,rs4 r4),(8,rs4 r5),(9,.row 30)] [(30,48,[rc3 (([]:List (S_api_Var)) ++ r4)])] [_,(AppOb zx1 E_api_Var ([]:List (S_api_Var)) (List.flatMap E_api_Var r4) (List.length r4) (rs4 (([]:List (S_api_Var)) ++ r4)) ∧ GoodR (rs4 (([]:List (S_api_Var)) ++ r4)))] (AllP.cons hc18 (AllP.cons (appOb rfl rfl (good_E_api_Var _)) AllP.nil)) (To.thenN (Wp.seq ?_))
  obtain ⟨hc17,h⟩:=chk_of h
  refine rr [] [(2,rs4 ((([]:List (S_api_Var)) ++ r4) ++ r5))] [] [0,2,7,8,9] [33] [(0,rs4 a0),(2,.str a2),(7,rs4 r4),(8,rs4 r5),(9,.row 33)] [(33,48,[rc3 ((([]:List (S_api_Var)) ++ r4) ++ r5)])] [_,(AppOb zx1 E_api_Var (([]:List (S_api_Var)) ++ r4) (List.flatMap E_api_Var r5) (List.length r5) (rs4 ((([]:List (S_api_Var)) ++ r4) ++ r5)) ∧ GoodR (rs4 ((([]:List (S_api_Var)) ++ r4) ++ r5)))] (AllP.cons hc17 (AllP.cons (appOb rfl rfl (good_E_api_Var _)) AllP.nil)) (To.thenN (Wp.seq ?_))
  obtain ⟨r6,hr6,h⟩:=bind_of h
  refine rc [] 2 [0,2,7,8,9,10,11] [33] [(0,rs4 a0),(2,.str a2),(7,rs4 r4),(8,rs4 r5),(9,.row 33),(10,.str r6.1),(11,vb r6.2)] [(33,48,[rc3 ((([]:List (S_api_Var)) ++ r4) ++ r5)])] (ok_env_Get n r4 a2 _ hr6) (To.thenN (Wp.seq ?_))
  obtain ⟨r7,hr7,h⟩:=bind_of h
  refine rc [] 2 [0,7,8,9,10,11,12,13] [33] [(0,rs4 a0),(7,rs4 r4),(8,rs4 r5),(9,.row 33),(10,.str r6.1),(11,vb r6.2),(12,.str r7.1),(13,vb r7.2)] [(33,48,[rc3 ((([]:List (S_api_Var)) ++ r4) ++ r5)])] (ok_ref12_Last n r4 a2 _ hr7) (To.thenN (Wp.seq ?_))
  obtain ⟨r8,hr8,h⟩:=bind_of h
  obtain ⟨r9,hr9,h⟩:=bind_of h
  obtain ⟨r10,hr10,h⟩:=bind_of h
  obtain ⟨r11,hr11,h⟩:=bind_of h
  obtain ⟨r12,hr12,h⟩:=bind_of h
  obtain ⟨r13,hr13,h⟩:=bind_of h
  obtain ⟨r14,hr14,h⟩:=bind_of h
  obtain ⟨r15,hr15,h⟩:=bind_of h
  obtain ⟨x16,hx16,h⟩:=lett_of h
  refine rr [(9,[33])] [(1,rs4 r8),(3,vb r9),(7,rs4 r10),(9,rs4 r11),(10,vb r12),(24,.str r13),(26,.str r14),(30,vb r15)] [] [6] [] [(6,vb (bif (bif (bif (bif (bif r9 then r12 else false) then (r6.1 == r7.1) else false) then (r6.2 == r7.2) else false) then (r13 == r14) else false) then r15 else false))] [] [_,_,((r9 == true) = true → CX Tryz.prog 20 [rs4 r4,rs4 r5] (rs4 r10)),((r9 == true) = true → CX Tryz.prog 8 [rs4 ((([]:List (S_api_Var)) ++ r4) ++ r5)] (rs4 r11)),((r9 == true) = true → CX Tryz.prog 18 [rs4 r10,rs4 r11] (vb r12)),(((bif (bif (bif r9 then r12 else false) then (r6.1 == r7.1) else false) then (r6.2 == r7.2) else false) == true) = true → CX Tryz.prog 21 [rs4 r4] (.str r13)),(((bif (bif (bif r9 then r12 else false) then (r6.1 == r7.1) else false) then (r6.2 == r7.2) else false) == true) = true → CX Tryz.prog 22 [rs4 r4] (.str r14)),(((bif (bif (bif (bif r9 then r12 else false) then (r6.1 == r7.1) else false) then (r6.2 == r7.2) else false) then (r13 == r14) else false) == true) = true → CX Tryz.prog 15 [] (vb r15))] (AllP.cons (c1 (ok_env_Of n a0 _ hr8)) (AllP.cons (c1 (ok_ref12_Same n r8 r4 _ hr9)) (AllP.cons (fun hg=>cx (ok_env_Over n r4 r5 _ (if_t hg hr10))) (AllP.cons (fun hg=>cx (ok_ref12_Of n ((([]:List (S_api_Var)) ++ r4) ++ r5) _ (if_t hg hr11))) (AllP.cons (fun hg=>cx (ok_ref12_Same n r10 r11 _ (if_t hg hr12))) (AllP.cons (fun hg=>cx (ok_env_Text n r4 _ (if_t hg hr13))) (AllP.cons (fun hg=>cx (ok_ref12_Text n r4 _ (if_t hg hr14))) (AllP.cons (fun hg=>cx (ok_law12_awake n  _ (if_t hg hr15))) AllP.nil)))))))) (To.eq (K':=[(6,vb x16)]) (L':=[]) (by cases hx16; rfl) (by cases hx16; rfl) (To.thenN (Wp.ret ?_)))
  cases h
  exact To.done hΓ (by kernel_rfl)
theorem opens_string:Opens Tryz.prog 9 (fun l:List UInt8=>l.length ≤ maxLen) (fun l=>[.str l]):=opens_str (by kernel_rfl)
def W_api_Var (x:S_api_Var):Prop:=(List.length x.f_Key ≤ maxLen) ∧ (List.length x.f_Val ≤ maxLen)
theorem opens_api_Var:Opens Tryz.prog 48 W_api_Var (fun x=>[.str x.f_Key,.str x.f_Val]):=by
 intro H enc W fuel cs d ps h
 obtain ⟨hl,hf⟩:=field_of Tryz.underlying48 h
 have hl:cs.length = 2:=hl.trans (by kernel_rfl)
 obtain ⟨x0,w0,r0⟩:=hf 0 _ rfl opens_string
 have r0:=repAt (a':=0) (b':=1) r0 (by kernel_rfl) (by kernel_rfl)
 obtain ⟨x1,w1,r1⟩:=hf 1 _ rfl opens_string
 have r1:=repAt (a':=1) (b':=1) r1 (by kernel_rfl) (by kernel_rfl)
 refine ⟨⟨x0,x1⟩,⟨w0,w1⟩,?_⟩
 refine parts_all (l:=[([.str x0],1),([.str x1],1)]) ⟨r0,r1,Nat.le_of_eq hl⟩ rfl
def W_Lapi_Var (l:List (S_api_Var)):Prop:=l.length ≤ maxLen ∧ ∀ x ∈ l,(W_api_Var x)
theorem opens_Lapi_Var:Opens Tryz.prog 26 W_Lapi_Var (fun l=>[.recs (α:=S_api_Var) (S_api_Var.mk [] []) E_api_Var l]):=opens_slice (α:=S_api_Var) (cells:=E_api_Var) (S_api_Var.mk [] []) (by kernel_rfl) (by kernel_rfl) (of_decide_eq_true (by kernel_rfl)) opens_api_Var
end Go.Proofs.YtibgdilkodjojaaGreatDoor.M
