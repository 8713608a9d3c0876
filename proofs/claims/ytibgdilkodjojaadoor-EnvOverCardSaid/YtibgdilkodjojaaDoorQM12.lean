import Derived.Test.YtibgdilkodjojaaDoorQM12b
set_option linter.all false
namespace Go.Proofs.YtibgdilkodjojaaDoor.M
open Go.RowKit Go.Proofs.YtibgdilkodjojaaDoor.RX
set_option maxRecDepth 100000
theorem ok_law12_EnvOver_l2 (n:Nat) (v9:List (S_api_Var)) {F0:Fz} {w0:Pt Tryd.prog} {Q:Exit → Act → World → Prop} (k:Nat):∀ (v14:Int) (o:Sum (Unit) (Bool)),law12_EnvOver_l2 n v9 k v14 = some o → (Sum.elim (fun s=>To 111 F0 w0 [(9,rs4 v9)] [] (.exit 0) Q) (fun s=>To 111 F0 w0 [(6,vb s)] [] .ret Q)) o → WL Tryd.prog 111 F0 w0 [(9,rs4 v9),(14,vi v14)] [] (cI (cI (cB (cA (cB (cB (cB (cB (cB (cB (cB (cB (cF Tryd.f6))))))))))))) Q:=by
 induction k with
 | zero=>intro v14 o h; cases h
 | succ k ih =>
  intro v14 o h hQ
  rw [law12_EnvOver_l2] at h
  refine WL.round (Wp.seq (Wp.seq (rg [9,14,66] [] [(9,rs4 v9),(14,vi v14),(66,vb (decide (v14 < (List.length v9:Int))))] [] (To.thenN (cn h (fun h=>?_) (fun h=>?_))))))
  ·refine Wp.skip (To.thenN (Wp.seq (Wp.block (Wp.seq ?_))))
   obtain ⟨hc11,h⟩:=chk_of h
   obtain ⟨hc12,h⟩:=chk_of h
   obtain ⟨x10,hx10,h⟩:=lett_of h
   refine Wp.regionD hm hΓ [] [9,14,80] [] (K':=[(9,rs4 v9),(14,vi v14),(80,vb (!(Op.bytesLess (((v9)[Int.toNat (IntKind.wrap .i64 (v14 - 1))]?.getD zx1).f_Key) ((ex4 v9 v14).f_Key))))]) (L':=[]) (ob:=[(decide (0 ≤ (IntKind.wrap .i64 (v14 - 1)) ∧ (IntKind.wrap .i64 (v14 - 1)) < (List.length v9:Int))) = true,(ex5 v14 v9) = true]) (by kernel_rfl) (AllP.cons hc11 (AllP.cons hc12 AllP.nil)) (To.eq (K':=[(9,rs4 v9),(14,vi v14),(80,vb x10)]) (L':=[]) (by cases hx10; rfl) (by cases hx10; rfl) (To.thenN (cn h (fun h=>?_) (fun h=>?_))))
   ·refine Wp.seq (rg [6] [] [(6,vb false)] [] (To.thenN (Wp.ret (To.blockR (To.thenR (To.thenR ?_))))))
    cases h
    exact hQ
   ·refine Wp.skip (To.blockN (To.thenN (rg [9,14] [] [(9,rs4 v9),(14,vi (IntKind.wrap .i64 (v14 + 1)))] [] (kt [9,14] [] [(9,rs4 v9),(14,vi (IntKind.wrap .i64 (v14 + 1)))] [] (To.again ?_)))))
    exact ih (IntKind.wrap .i64 (v14 + 1)) _ h hQ
  ·refine Wp.exit (To.thenX (To.thenX (kt [9] [] [(9,rs4 v9)] [] ?_)))
   cases h
   exact hQ
def law12_EnvOver (n:Nat) (a0:List (S_api_Var)) (a1:List (S_api_Var)) (a2:List UInt8):Option (Bool) :=
 (law12_Few n a0 30).bind fun r1 =>
 ((if ((!r1) == false) = true then law12_Few n a1 30 else some false)).bind fun r2 =>
 if (bif (!r1) then true else (!r2)) = true then ((law12_awake n).bind fun r3 =>
 some r3)
 else ((env_Of n a0).bind fun r4 =>
 (env_Of n a1).bind fun r5 =>
 (env_Over n r4 r5).bind fun r6 =>
 (env_Get n r6 a2).bind fun r7 =>
 (env_Get n r5 a2).bind fun r8 =>
 (law12_EnvOver_j1 n a2 r4 r6 r7.1 r7.2 r8.1 r8.2 (!r8.2)).bind fun o9 =>
 if (bif (!(r7.1 == o9.1)) then true else (!(r7.2 == o9.2))) = true then some false
 else ((law12_EnvOver_l2 n r6 n 1).bind fun o10 =>
 (Sum.elim (fun o10=>(env_Text n r6).bind fun r11 =>
 (env_Parse n r11).bind fun r12 =>
 if (decide ((List.length r11:Int) > 8192)) = true then (((if ((r12.2.2 == 9) == true) = true then law12_awake n else some false)).bind fun r13 =>
 some (bif (r12.2.2 == 9) then r13 else false))
 else ((ref12_Same n r12.1 r6).bind fun r14 =>
 ((if ((bif (bif r14 then (r12.2.1 == 0) else false) then (r12.2.2 == 0) else false) == true) = true then law12_awake n else some false)).bind fun r15 =>
 some (bif (bif (bif r14 then (r12.2.1 == 0) else false) then (r12.2.2 == 0) else false) then r15 else false))) (fun o10=>some o10)) o10))
theorem ok_law12_EnvOver (n:Nat) (a0:List (S_api_Var)) (a1:List (S_api_Var)) (a2:List UInt8) (r:Bool) (h:law12_EnvOver n a0 a1 a2 = some r):CallsX Tryd.prog 6 [rs4 a0,rs4 a1,.str a2] (vb r):=by
 unfold law12_EnvOver at h
 refine xo Tryd.f6 rfl fun F0 w0 _=>?_
 refine Wp.seq (rg [0,1,2] [] [(0,rs4 a0),(1,rs4 a1),(2,.str a2)] [] (To.thenN (Wp.seq (Wp.seq ?_))))
 obtain ⟨r1,hr1,h⟩:=bind_of h
 obtain ⟨r2,hr2,h⟩:=bind_of h
 refine rr [] [(1,vb r1),(5,vb r2)] [] [0,1,2,26] [] [(0,rs4 a0),(1,rs4 a1),(2,.str a2),(26,vb (bif (!r1) then true else (!r2)))] [] [_,(((!r1) == false) = true → CX Tryd.prog 7 [rs4 a1,vi 30] (vb r2))] (AllP.cons (c1 (ok_law12_Few n a0 30 _ hr1)) (AllP.cons (fun hg=>cx (ok_law12_Few n a1 30 _ (if_t hg hr2))) AllP.nil)) (To.thenN (cn h (fun h=>?_) (fun h=>?_)))
 ·refine Wp.seq ?_
  obtain ⟨r3,hr3,h⟩:=bind_of h
  refine rc [] 0 [6] [] [(6,vb r3)] [] (ok_law12_awake n  _ hr3) (To.thenN (Wp.ret (To.thenR ?_)))
  cases h
  exact To.done hΓ (by kernel_rfl)
 ·refine Wp.skip (To.thenN (Wp.seq ?_))
  obtain ⟨r4,hr4,h⟩:=bind_of h
  obtain ⟨r5,hr5,h⟩:=bind_of h
  refine rr [] [(1,rs4 r4),(3,rs4 r5)] [] [2,7,8] [] [(2,.str a2),(7,rs4 r4),(8,rs4 r5)] [] [_,_] (AllP.cons (c1 (ok_env_Of n a0 _ hr4)) (AllP.cons (c1 (ok_env_Of n a1 _ hr5)) AllP.nil)) (To.thenN (Wp.seq ?_))
  obtain ⟨r6,hr6,h⟩:=bind_of h
  refine rc [] 2 [2,7,8,9] [] [(2,.str a2),(7,rs4 r4),(8,rs4 r5),(9,rs4 r6)] [] (ok_env_Over n r4 r5 _ hr6) (To.thenN (Wp.seq ?_))
  obtain ⟨r7,hr7,h⟩:=bind_of h
  refine rc [] 2 [2,7,8,9,10,11] [] [(2,.str a2),(7,rs4 r4),(8,rs4 r5),(9,rs4 r6),(10,.str r7.1),(11,vb r7.2)] [] (ok_env_Get n r6 a2 _ hr7) (To.thenN (Wp.seq ?_))
  obtain ⟨r8,hr8,h⟩:=bind_of h
  refine rc [] 2 [2,7,9,10,11,12,13] [] [(2,.str a2),(7,rs4 r4),(9,rs4 r6),(10,.str r7.1),(11,vb r7.2),(12,.str r8.1),(13,vb r8.2)] [] (ok_env_Get n r5 a2 _ hr8) (To.thenN (Wp.seq (Wp.seq (rg [2,7,9,10,11,12,13,48] [] [(2,.str a2),(7,rs4 r4),(9,rs4 r6),(10,.str r7.1),(11,vb r7.2),(12,.str r8.1),(13,vb r8.2),(48,vb (!r8.2))] [] (To.thenN ?_)))))
  obtain ⟨o9,ho9,h⟩:=bind_of h
  refine kw [2,7,9,10,11,12,13,48] [] [(2,.str a2),(7,rs4 r4),(9,rs4 r6),(10,.str r7.1),(11,vb r7.2),(12,.str r8.1),(13,vb r8.2),(48,vb (!r8.2))] [] (ok_law12_EnvOver_j1 n a2 r4 r6 r7.1 r7.2 r8.1 r8.2 (!r8.2) o9 ho9 (To.thenN (Wp.seq (Wp.seq (rg [9,62] [] [(9,rs4 r6),(62,vb (bif (!(r7.1 == o9.1)) then true else (!(r7.2 == o9.2))))] [] (To.thenN (cn h (fun h=>?_) (fun h=>?_))))))))
  ·refine Wp.seq (rg [6] [] [(6,vb false)] [] (To.thenN (Wp.ret (To.thenR ?_))))
   cases h
   exact To.done hΓ (by kernel_rfl)
  ·refine Wp.skip (To.thenN (Wp.seq (Wp.seq (rg [9,14] [] [(9,rs4 r6),(14,vi 1)] [] (To.thenN (Wp.block ?_))))))
   obtain ⟨o10,ho10,h⟩:=bind_of h
   refine kw [9,14] [] [(9,rs4 r6),(14,vi 1)] [] (Wp.loopL (ok_law12_EnvOver_l2 n r6 n 1 o10 ho10 ?_))
   rcases o10 with o10 | o10
   ·replace h:=sum_l h
    refine To.blockX (To.thenN (Wp.seq ?_))
    obtain ⟨r11,hr11,h⟩:=bind_of h
    refine rc [] 1 [9,15] [] [(9,rs4 r6),(15,.str r11)] [] (ok_env_Text n r6 _ hr11) (To.thenN (Wp.seq ?_))
    obtain ⟨r12,hr12,h⟩:=bind_of h
    refine rc [] 1 [9,15,16,17,18] [] [(9,rs4 r6),(15,.str r11),(16,rs4 r12.1),(17,vi r12.2.1),(18,vi r12.2.2)] [] (ok_env_Parse n r11 _ hr12) (To.thenN (Wp.seq (Wp.seq (rg [9,16,17,18,91] [] [(9,rs4 r6),(16,rs4 r12.1),(17,vi r12.2.1),(18,vi r12.2.2),(91,vb (decide ((List.length r11:Int) > 8192)))] [] (To.thenN (cn h (fun h=>?_) (fun h=>?_)))))))
    ·refine Wp.seq ?_
     obtain ⟨r13,hr13,h⟩:=bind_of h
     refine rr [] [(3,vb r13)] [] [6] [] [(6,vb (bif (r12.2.2 == 9) then r13 else false))] [] [(((r12.2.2 == 9) == true) = true → CX Tryd.prog 18 [] (vb r13))] (AllP.cons (fun hg=>cx (ok_law12_awake n  _ (if_t hg hr13))) AllP.nil) (To.thenN (Wp.ret (To.thenR ?_)))
     cases h
     exact To.done hΓ (by kernel_rfl)
    ·refine Wp.skip (To.thenN (Wp.seq ?_))
     obtain ⟨r14,hr14,h⟩:=bind_of h
     obtain ⟨r15,hr15,h⟩:=bind_of h
     refine rr [] [(2,vb r14),(12,vb r15)] [] [6] [] [(6,vb (bif (bif (bif r14 then (r12.2.1 == 0) else false) then (r12.2.2 == 0) else false) then r15 else false))] [] [_,(((bif (bif r14 then (r12.2.1 == 0) else false) then (r12.2.2 == 0) else false) == true) = true → CX Tryd.prog 18 [] (vb r15))] (AllP.cons (c1 (ok_ref12_Same n r12.1 r6 _ hr14)) (AllP.cons (fun hg=>cx (ok_law12_awake n  _ (if_t hg hr15))) AllP.nil)) (To.thenN (Wp.ret ?_))
     cases h
     exact To.done hΓ (by kernel_rfl)
   ·replace h:=sum_r h
    refine To.blockR (To.thenR ?_)
    cases h
    exact To.done hΓ (by kernel_rfl)
theorem opens_string:Opens Tryd.prog 9 (fun l:List UInt8=>l.length ≤ maxLen) (fun l=>[.str l]):=opens_str (by kernel_rfl)
def W_api_Var (x:S_api_Var):Prop:=(List.length x.f_Key ≤ maxLen) ∧ (List.length x.f_Val ≤ maxLen)
theorem opens_api_Var:Opens Tryd.prog 43 W_api_Var (fun x=>[.str x.f_Key,.str x.f_Val]):=by
 intro H enc W fuel cs d ps h
 obtain ⟨hl,hf⟩:=field_of Tryd.underlying43 h
 have hl:cs.length = 2:=hl.trans (by kernel_rfl)
 obtain ⟨x0,w0,r0⟩:=hf 0 _ rfl opens_string
 have r0:=repAt (a':=0) (b':=1) r0 (by kernel_rfl) (by kernel_rfl)
 obtain ⟨x1,w1,r1⟩:=hf 1 _ rfl opens_string
 have r1:=repAt (a':=1) (b':=1) r1 (by kernel_rfl) (by kernel_rfl)
 refine ⟨⟨x0,x1⟩,⟨w0,w1⟩,?_⟩
 refine parts_all (l:=[([.str x0],1),([.str x1],1)]) ⟨r0,r1,Nat.le_of_eq hl⟩ rfl
def W_Lapi_Var (l:List (S_api_Var)):Prop:=l.length ≤ maxLen ∧ ∀ x ∈ l,(W_api_Var x)
theorem opens_Lapi_Var:Opens Tryd.prog 22 W_Lapi_Var (fun l=>[.recs (α:=S_api_Var) (S_api_Var.mk [] []) E_api_Var l]):=opens_slice (α:=S_api_Var) (cells:=E_api_Var) (S_api_Var.mk [] []) (by kernel_rfl) (by kernel_rfl) (of_decide_eq_true (by kernel_rfl)) opens_api_Var
end Go.Proofs.YtibgdilkodjojaaDoor.M
