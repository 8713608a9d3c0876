import Derived.Test.YtibgdilkodjojaaGreatDoorQMG14c
set_option linter.all false
namespace Go.Proofs.YtibgdilkodjojaaGreatDoor.M
open Go.RowKit Go.Proofs.YtibgdilkodjojaaGreatDoor.RX
set_option maxRecDepth 100000
abbrev ex44 (x0:List (S_ref13_Part)) (x1:Int):=((x0)[Int.toNat x1]?.getD zx32)
abbrev ex69 (x0:List (S_ref13_Part)) (x1:Int):Nat × Nat × List D:=(5,117,[.str ((ex44 x0 x1).f_Name),.str ((ex44 x0 x1).f_Text),vi ((ex44 x0 x1).f_Op),tn36 ((ex44 x0 x1).f_Sub)])
theorem ok_ref13_Text_j2 (R_ref13_Text:(List (S_ref13_Part)) → Option ((List UInt8))) (hR_ref13_Text:hR39 R_ref13_Text) (n:Nat) (v0:List (S_ref13_Part)) (v3:List UInt8) (v4:Int) (o:(List UInt8)) (h:ref13_Text_j2 R_ref13_Text n v0 v3 v4 = some o) {F0:Fz} {w0:Pt Tryz.prog} {Q:Exit → Act → World → Prop} (hQ:To 63 F0 w0 [(0,rs34 v0),(3,.str o),(4,vi v4)] [] .normal Q):Wp Tryz.prog 63 F0 w0 [(0,rs34 v0),(3,.str v3),(4,vi v4)] [] (cA (cB (cI (cI (cB (cA (cB (cB (cF Tryz.f92))))))))) Q:=by
 unfold ref13_Text_j2 at h
 refine Wp.block (Wp.seq ?_)
 obtain ⟨hc9,h⟩:=chk_of h
 refine r0 [0,3,4,5] [5] [(0,rs34 v0),(3,.str v3),(4,vi v4),(5,.own 5 0)] [(ex69 v0 v4)] (AllP.cons hc9 AllP.nil) (To.thenN (Wp.seq (rg [0,3,4,5,19] [5] [(0,rs34 v0),(3,.str v3),(4,vi v4),(5,.own 5 0),(19,vb (((ex44 v0 v4).f_Op) == 0))] [(ex69 v0 v4)] (To.thenN (cn h (fun h=>?_) (fun h=>?_))))))
 ·refine Wp.seq (rg [0,3,4,5,6] [5] [(0,rs34 v0),(3,.str v3),(4,vi v4),(5,.own 5 0),(6,vi 0)] [(ex69 v0 v4)] (To.thenN (Wp.block ?_)))
  obtain ⟨o1,ho1,h⟩:=bind_of h
  refine kw [0,3,4,5,6] [5] [(0,rs34 v0),(3,.str v3),(4,vi v4),(5,.own 5 0),(6,vi 0)] [(ex69 v0 v4)] (Wp.loopL (ok_ref13_Text_l3 R_ref13_Text hR_ref13_Text n v0 v4 (ex44 v0 v4) n v3 0 o1 ho1 (To.blockX (To.blockN (kt [0,3,4] [] [(0,rs34 v0),(3,.str o1),(4,vi v4)] [] ?_)))))
  cases h
  exact hQ
 ·refine Wp.seq ?_
  obtain ⟨hc5,h⟩:=chk_of h
  obtain ⟨hc6,h⟩:=chk_of h
  obtain ⟨hc7,h⟩:=chk_of h
  obtain ⟨r2,hr2,h⟩:=bind_of h
  obtain ⟨hc8,h⟩:=chk_of h
  refine Wp.regionD hm hΓ [(8,.str r2)] [0,3,4,5] [5] (K':=[(0,rs34 v0),(3,.str ((((v3 ++ [36]) ++ [123]) ++ ((ex44 v0 v4).f_Name)) ++ r2)),(4,vi v4),(5,.own 5 0)]) (L':=[(ex69 v0 v4)]) (ob:=[(decide (((List.length v3 + List.length ([36]:List UInt8):Nat):Int) ≤ 9223372036854775807)) = true,(decide (((List.length (v3 ++ [36]) + List.length ([123]:List UInt8):Nat):Int) ≤ 9223372036854775807)) = true,(decide (((List.length ((v3 ++ [36]) ++ [123]) + List.length ((ex44 v0 v4).f_Name):Nat):Int) ≤ 9223372036854775807)) = true,(true = true → CX Tryz.prog 124 [vi ((ex44 v0 v4).f_Op)] (.str r2)),(decide (((List.length (((v3 ++ [36]) ++ [123]) ++ ((ex44 v0 v4).f_Name)) + List.length r2:Nat):Int) ≤ 9223372036854775807)) = true]) (by kernel_rfl) (AllP.cons hc5 (AllP.cons hc6 (AllP.cons hc7 (AllP.cons (fun _=>cx (ok_ref13_mark n ((ex44 v0 v4).f_Op) _ hr2)) (AllP.cons hc8 AllP.nil))))) (To.thenN (Wp.seq (Wp.seq (rg [0,3,4,5,54] [5] [(0,rs34 v0),(3,.str ((((v3 ++ [36]) ++ [123]) ++ ((ex44 v0 v4).f_Name)) ++ r2)),(4,vi v4),(5,.own 5 0),(54,vb (decide (((ex44 v0 v4).f_Op) > 1)))] [(ex69 v0 v4)] (To.thenN ?_)))))
  obtain ⟨o3,ho3,h⟩:=bind_of h
  refine kw [0,3,4,5,54] [5] [(0,rs34 v0),(3,.str ((((v3 ++ [36]) ++ [123]) ++ ((ex44 v0 v4).f_Name)) ++ r2)),(4,vi v4),(5,.own 5 0),(54,vb (decide (((ex44 v0 v4).f_Op) > 1)))] [(ex69 v0 v4)] (ok_ref13_Text_j6 R_ref13_Text hR_ref13_Text n v0 ((((v3 ++ [36]) ++ [123]) ++ ((ex44 v0 v4).f_Name)) ++ r2) v4 (decide (((ex44 v0 v4).f_Op) > 1)) (ex44 v0 v4) o3 ho3 (To.thenN ?_))
  obtain ⟨hc4,h⟩:=chk_of h
  refine r0 [0,3,4] [] [(0,rs34 v0),(3,.str (o3 ++ [125])),(4,vi v4)] [] (AllP.cons hc4 AllP.nil) (To.blockN ?_)
  cases h
  exact hQ
def ref13_Text_l1 (R_ref13_Text:(List (S_ref13_Part)) → Option ((List UInt8))) (n:Nat) (v0:List (S_ref13_Part)):Nat → (List UInt8) → Int → Option ((List UInt8))
 | 0,_,_=>none
 | k + 1,v3,v4=>if (decide (v4 < (List.length v0:Int))) = true then ((ref13_Text_j2 R_ref13_Text n v0 v3 v4).bind fun o1 =>
 ref13_Text_l1 R_ref13_Text n v0 k o1 (IntKind.wrap .i64 (v4 + 1)))
 else some v3
theorem ok_ref13_Text_l1 (R_ref13_Text:(List (S_ref13_Part)) → Option ((List UInt8))) (hR_ref13_Text:hR39 R_ref13_Text) (n:Nat) (v0:List (S_ref13_Part)) {F0:Fz} {w0:Pt Tryz.prog} {Q:Exit → Act → World → Prop} (k:Nat):∀ (v3:List UInt8) (v4:Int) (o:(List UInt8)),ref13_Text_l1 R_ref13_Text n v0 k v3 v4 = some o → To 63 F0 w0 [(3,.str o)] [] (.exit 0) Q → WL Tryz.prog 63 F0 w0 [(0,rs34 v0),(3,.str v3),(4,vi v4)] [] (cI (cI (cB (cA (cB (cB (cF Tryz.f92))))))) Q:=by
 induction k with
 | zero=>intro v3 v4 o h; cases h
 | succ k ih =>
  intro v3 v4 o h hQ
  rw [ref13_Text_l1] at h
  refine WL.round (Wp.seq (Wp.seq (rg [0,3,4,10] [] [(0,rs34 v0),(3,.str v3),(4,vi v4),(10,vb (decide (v4 < (List.length v0:Int))))] [] (To.thenN (cn h (fun h=>?_) (fun h=>?_))))))
  ·refine Wp.skip (To.thenN (Wp.seq ?_))
   obtain ⟨o1,ho1,h⟩:=bind_of h
   refine kw [0,3,4] [] [(0,rs34 v0),(3,.str v3),(4,vi v4)] [] (ok_ref13_Text_j2 R_ref13_Text hR_ref13_Text n v0 v3 v4 o1 ho1 (To.thenN (rg [0,3,4] [] [(0,rs34 v0),(3,.str o1),(ex12 v4)] [] (kt [0,3,4] [] [(0,rs34 v0),(3,.str o1),(ex12 v4)] [] (To.again ?_)))))
   exact ih o1 (IntKind.wrap .i64 (v4 + 1)) _ h hQ
  ·refine Wp.exit (To.thenX (To.thenX (kt [3] [] [(3,.str v3)] [] ?_)))
   cases h
   exact hQ
def ref13_Text_b (R_ref13_Text:(List (S_ref13_Part)) → Option ((List UInt8))) (n:Nat) (a0:List (S_ref13_Part)):Option ((List UInt8)) :=
 (ref13_Text_l1 R_ref13_Text n a0 n [] 0).bind fun o1 =>
 some o1
theorem ok_ref13_Text_b (R_ref13_Text:(List (S_ref13_Part)) → Option ((List UInt8))) (hR_ref13_Text:hR39 R_ref13_Text) (n:Nat) (a0:List (S_ref13_Part)) (r:(List UInt8)) (h:ref13_Text_b R_ref13_Text n a0 = some r):CallsX Tryz.prog 92 [rs34 a0] (.str r):=by
 unfold ref13_Text_b at h
 refine xo Tryz.f92 rfl fun F0 w0 _=>?_
 refine Wp.seq (rg [0] [] [(0,rs34 a0)] [] (To.thenN (Wp.seq (rg [0,3] [] [(0,rs34 a0),(3,.str [])] [] (To.thenN (Wp.seq (Wp.seq (rg [0,3,4] [] [(0,rs34 a0),(3,.str []),(4,vi 0)] [] (To.thenN (Wp.block ?_))))))))))
 obtain ⟨o1,ho1,h⟩:=bind_of h
 refine kw [0,3,4] [] [(0,rs34 a0),(3,.str []),(4,vi 0)] [] (Wp.loopL (ok_ref13_Text_l1 R_ref13_Text hR_ref13_Text n a0 n [] 0 o1 ho1 (To.blockX (To.thenN (Wp.seq (rg [2] [] [(2,.str o1)] [] (To.thenN (Wp.ret ?_))))))))
 cases h
 exact To.done hΓ (by kernel_rfl)
def ref13_Text:Nat → (List (S_ref13_Part)) → Option ((List UInt8))
 | 0=>fun _=>none
 | n + 1=>ref13_Text_b (ref13_Text n) n
theorem ok_ref13_Text (n:Nat):∀ (a0:List (S_ref13_Part)) (r:(List UInt8)),ref13_Text n a0 = some r → CallsX Tryz.prog 92 [rs34 a0] (.str r):=by
 induction n with
 | zero=>intro a0 r h; cases h
 | succ n ih=>exact fun a0 r h=>ok_ref13_Text_b (ref13_Text n) ih n a0 r h
def ref14_part (R_ref14_Parts:(List (S_ref13_Part)) → (List (S_api_Var)) → Option (S_ref14_Said)) (n:Nat) (a0:S_ref13_Part) (a1:List (S_api_Var)):Option (S_ref14_Said) :=
 if (a0.f_Op == 0) = true then (some (S_ref14_Said.mk a0.f_Text [] [] 0))
 else ((ref12_Last n a1 a0.f_Name).bind fun r1 =>
 lett ((bif (bif (bif (bif (a0.f_Op == 2) then (!(bif r1.2 then (decide ((List.length r1.1:Int) > 0)) else false)) else false) then true else (bif (a0.f_Op == 3) then (!r1.2) else false)) then true else (bif (a0.f_Op == 6) then (bif r1.2 then (decide ((List.length r1.1:Int) > 0)) else false) else false)) then true else (bif (a0.f_Op == 7) then r1.2 else false)):Bool) fun x2 =>
 if x2 = true then ((R_ref14_Parts a0.f_Sub a1).bind fun r3 =>
 some r3)
 else (lett ((bif (bif (a0.f_Op == 4) then (!(bif r1.2 then (decide ((List.length r1.1:Int) > 0)) else false)) else false) then true else (bif (a0.f_Op == 5) then (!r1.2) else false)):Bool) fun x4 =>
 if x4 = true then ((ref13_Text n a0.f_Sub).bind fun r5 =>
 some (S_ref14_Said.mk [] a0.f_Name r5 4))
 else (if (bif (decide (a0.f_Op > 5)) then true else (!r1.2)) = true then (some (S_ref14_Said.mk [] [] [] 0))
 else (some (S_ref14_Said.mk r1.1 [] [] 0)))))
abbrev hR40 (R_ref14_Parts:(List (S_ref13_Part)) → (List (S_api_Var)) → Option (S_ref14_Said)):Prop:=∀ (a0:List (S_ref13_Part)) (a1:List (S_api_Var)) (r:S_ref14_Said),R_ref14_Parts a0 a1 = some r → CallsX Tryz.prog 49 [rs34 a0,rs15 a1] (.agg [.str r.f_Text,.str r.f_Key,.str r.f_Why,vi r.f_E])
abbrev qc41 (x:S_ref14_Said):List D:=[.str x.f_Text,.str x.f_Key,.str x.f_Why,vi x.f_E]
theorem ok_ref14_part (R_ref14_Parts:(List (S_ref13_Part)) → (List (S_api_Var)) → Option (S_ref14_Said)) (hR_ref14_Parts:hR40 R_ref14_Parts) (n:Nat) (a0:S_ref13_Part) (a1:List (S_api_Var)) (r:S_ref14_Said) (h:ref14_part R_ref14_Parts n a0 a1 = some r):CallsX Tryz.prog 71 [.agg (qc38 a0),rs15 a1] (.agg (qc41 r)):=by
 unfold ref14_part at h
 refine xo Tryz.f71 rfl fun F0 w0 _=>?_
 refine Wp.seq (rg [1,2,4] [2,4] [(1,rs15 a1),(2,.own 2 0),(4,.own 4 0)] [(2,117,qc38 a0),(4,54,[.str [],.str [],.str [],vi 0])] (To.thenN (Wp.seq (Wp.seq (rg [1,2,4,10] [2,4] [(1,rs15 a1),(2,.own 2 0),(4,.own 4 0),(10,vb (a0.f_Op == 0))] [(2,117,qc38 a0),(4,54,[.str [],.str [],.str [],vi 0])] (To.thenN (cn h (fun h=>?_) (fun h=>?_))))))))
 ·refine Wp.seq (rg [4] [4] [(4,.own 4 0)] [(4,54,[.str a0.f_Text,.str [],.str [],vi 0])] (To.thenN (Wp.ret (To.thenR ?_))))
  cases h
  exact To.done hΓ (by kernel_rfl)
 ·refine Wp.skip (To.thenN (Wp.seq ?_))
  obtain ⟨r1,hr1,h⟩:=bind_of h
  refine rc [] 3 [1,2,4,5,6] [2,4] [(1,rs15 a1),(2,.own 2 0),(4,.own 4 0),(5,.str r1.1),(6,vb r1.2)] [(2,117,qc38 a0),(4,54,[.str [],.str [],.str [],vi 0])] (ok_ref12_Last n a1 a0.f_Name _ hr1) (To.thenN (Wp.seq (rg [1,2,4,5,6,7] [2,4] [(1,rs15 a1),(2,.own 2 0),(4,.own 4 0),(5,.str r1.1),(6,vb r1.2),(7,vb (bif r1.2 then (decide ((List.length r1.1:Int) > 0)) else false))] [(2,117,qc38 a0),(4,54,[.str [],.str [],.str [],vi 0])] (To.thenN (Wp.seq (Wp.seq ?_))))))
  obtain ⟨x2,hx2,h⟩:=lett_of h
  refine rg [1,2,4,5,6,7,58] [2,4] [(1,rs15 a1),(2,.own 2 0),(4,.own 4 0),(5,.str r1.1),(6,vb r1.2),(7,vb (bif r1.2 then (decide ((List.length r1.1:Int) > 0)) else false)),(58,vb (bif (bif (bif (bif (a0.f_Op == 2) then (!(bif r1.2 then (decide ((List.length r1.1:Int) > 0)) else false)) else false) then true else (bif (a0.f_Op == 3) then (!r1.2) else false)) then true else (bif (a0.f_Op == 6) then (bif r1.2 then (decide ((List.length r1.1:Int) > 0)) else false) else false)) then true else (bif (a0.f_Op == 7) then r1.2 else false)))] [(2,117,qc38 a0),(4,54,[.str [],.str [],.str [],vi 0])] (To.eq (K':=[(1,rs15 a1),(2,.own 2 0),(4,.own 4 0),(5,.str r1.1),(6,vb r1.2),(7,vb (bif r1.2 then (decide ((List.length r1.1:Int) > 0)) else false)),(58,vb x2)]) (L':=[(2,117,qc38 a0),(4,54,[.str [],.str [],.str [],vi 0])]) (by cases hx2; rfl) (by cases hx2; rfl) (To.thenN (cn h (fun h=>?_) (fun h=>?_))))
  ·refine Wp.seq ?_
   obtain ⟨r3,hr3,h⟩:=bind_of h
   refine rr [] [(3,.agg (qc41 r3))] [] [4] [4] [(4,.own 4 0)] [(4,54,qc41 r3)] [(true = true → CX Tryz.prog 49 [rs34 a0.f_Sub,rs15 a1] (.agg (qc41 r3)))] (AllP.cons (fun _=>cx (hR_ref14_Parts a0.f_Sub a1 _ hr3)) AllP.nil) (To.thenN (Wp.ret (To.thenR ?_)))
   cases h
   exact To.done hΓ (by kernel_rfl)
  ·refine Wp.skip (To.thenN (Wp.seq (Wp.seq ?_)))
   obtain ⟨x4,hx4,h⟩:=lett_of h
   refine rg [2,4,5,6,78] [2,4] [(2,.own 2 0),(4,.own 4 0),(5,.str r1.1),(6,vb r1.2),(78,vb (bif (bif (a0.f_Op == 4) then (!(bif r1.2 then (decide ((List.length r1.1:Int) > 0)) else false)) else false) then true else (bif (a0.f_Op == 5) then (!r1.2) else false)))] [(2,117,qc38 a0),(4,54,[.str [],.str [],.str [],vi 0])] (To.eq (K':=[(2,.own 2 0),(4,.own 4 0),(5,.str r1.1),(6,vb r1.2),(78,vb x4)]) (L':=[(2,117,qc38 a0),(4,54,[.str [],.str [],.str [],vi 0])]) (by cases hx4; rfl) (by cases hx4; rfl) (To.thenN (cn h (fun h=>?_) (fun h=>?_))))
   ·refine Wp.seq ?_
    obtain ⟨r5,hr5,h⟩:=bind_of h
    refine Wp.regionD hm hΓ [(4,.str r5)] [4] [4] (K':=[(4,.own 4 0)]) (L':=[(4,54,[.str [],.str a0.f_Name,.str r5,vi 4])]) (ob:=[(true = true → CX Tryz.prog 92 [rs34 a0.f_Sub] (.str r5))]) (by kernel_rfl) (AllP.cons (fun _=>cx (ok_ref13_Text n a0.f_Sub _ hr5)) AllP.nil) (To.thenN (Wp.ret (To.thenR ?_)))
    cases h
    exact To.done hΓ (by kernel_rfl)
   ·refine Wp.skip (To.thenN (Wp.seq (Wp.seq (rg [4,5,91] [4] [(4,.own 4 0),(5,.str r1.1),(91,vb (bif (decide (a0.f_Op > 5)) then true else (!r1.2)))] [(4,54,[.str [],.str [],.str [],vi 0])] (To.thenN (cn h (fun h=>?_) (fun h=>?_)))))))
    ·refine Wp.seq (rg [4] [4] [(4,.own 4 0)] [(4,54,[.str [],.str [],.str [],vi 0])] (To.thenN (Wp.ret (To.thenR ?_))))
     cases h
     exact To.done hΓ (by kernel_rfl)
    ·refine Wp.skip (To.thenN (Wp.seq (rg [4] [4] [(4,.own 4 0)] [(4,54,[.str r1.1,.str [],.str [],vi 0])] (To.thenN (Wp.ret ?_)))))
     cases h
     exact To.done hΓ (by kernel_rfl)
def ref14_Parts_l1 (R_ref14_Parts:(List (S_ref13_Part)) → (List (S_api_Var)) → Option (S_ref14_Said)) (n:Nat) (v0:List (S_ref13_Part)) (v1:List (S_api_Var)):Nat → (List UInt8) → Int → S_ref14_Said → Option (Sum ((List UInt8) × S_ref14_Said) (S_ref14_Said))
 | 0,_,_,_=>none
 | k + 1,v5,v6,b4=>if (decide (v6 < (List.length v0:Int))) = true then (if (decide (0 ≤ v6 ∧ v6 < (List.length v0:Int))) = true then ((ref14_part R_ref14_Parts n ((v0)[Int.toNat v6]?.getD (S_ref13_Part.mk [] [] 0 [])) v1).bind fun r1 =>
 if (r1.f_E != 0) = true then (some (.inr r1))
 else (if (decide (((List.length v5 + List.length r1.f_Text:Nat):Int) ≤ 9223372036854775807)) = true then (if (decide ((List.length (v5 ++ r1.f_Text):Int) > 8192)) = true then (some (.inr (S_ref14_Said.mk [] [] [] 9)))
 else (ref14_Parts_l1 R_ref14_Parts n v0 v1 k (v5 ++ r1.f_Text) (IntKind.wrap .i64 (v6 + 1)) b4)) else none)) else none)
 else (some (.inl (v5,b4)))
theorem ok_ref14_Parts_l1 (R_ref14_Parts:(List (S_ref13_Part)) → (List (S_api_Var)) → Option (S_ref14_Said)) (hR_ref14_Parts:hR40 R_ref14_Parts) (n:Nat) (v0:List (S_ref13_Part)) (v1:List (S_api_Var)) {F0:Fz} {w0:Pt Tryz.prog} {Q:Exit → Act → World → Prop} (k:Nat):∀ (v5:List UInt8) (v6:Int) (b4:S_ref14_Said) (o:Sum ((List UInt8) × S_ref14_Said) (S_ref14_Said)),ref14_Parts_l1 R_ref14_Parts n v0 v1 k v5 v6 b4 = some o → (Sum.elim (fun s=>To 34 F0 w0 [(4,.own 4 0),(5,.str s.1)] [(4,54,qc41 s.2)] (.exit 0) Q) (fun s=>To 34 F0 w0 [(4,.own 4 0)] [(4,54,qc41 s)] .ret Q)) o → WL Tryz.prog 34 F0 w0 [(0,rs34 v0),(1,rs15 v1),(4,.own 4 0),(5,.str v5),(6,vi v6)] [(4,54,qc41 b4)] (cI (cI (cB (cA (cB (cB (cF Tryz.f49))))))) Q:=by
 induction k with
 | zero=>intro v5 v6 b4 o h; cases h
 | succ k ih =>
  intro v5 v6 b4 o h hQ
  rw [ref14_Parts_l1] at h
  refine WL.round (Wp.seq (Wp.seq (rg [0,1,4,5,6,11] [4] [(0,rs34 v0),(1,rs15 v1),(4,.own 4 0),(5,.str v5),(6,vi v6),(11,vb (decide (v6 < (List.length v0:Int))))] [(4,54,qc41 b4)] (To.thenN (cn h (fun h=>?_) (fun h=>?_))))))
  ·refine Wp.skip (To.thenN (Wp.seq (Wp.block (Wp.seq ?_))))
   obtain ⟨hc3,h⟩:=chk_of h
   obtain ⟨r1,hr1,h⟩:=bind_of h
   refine rr [] [(5,.agg (qc41 r1))] [] [0,1,4,5,6,7] [4,7] [(0,rs34 v0),(1,rs15 v1),(4,.own 4 0),(5,.str v5),(6,vi v6),(7,.own 7 0)] [(4,54,qc41 b4),(7,54,qc41 r1)] [_,_] (AllP.cons hc3 (AllP.cons (c1 (ok_ref14_part R_ref14_Parts hR_ref14_Parts n (ex44 v0 v6) v1 _ hr1)) AllP.nil)) (To.thenN (Wp.seq (Wp.seq (rg [0,1,4,5,6,7,22] [4,7] [(0,rs34 v0),(1,rs15 v1),(4,.own 4 0),(5,.str v5),(6,vi v6),(7,.own 7 0),(22,vb (r1.f_E != 0))] [(4,54,qc41 b4),(7,54,qc41 r1)] (To.thenN (cn h (fun h=>?_) (fun h=>?_)))))))
   ·refine Wp.seq (rg [4] [4] [(4,.own 4 0)] [(4,54,qc41 r1)] (To.thenN (Wp.ret (To.thenR (To.blockR (To.thenR (To.thenR ?_)))))))
    cases h
    exact hQ
   ·refine Wp.skip (To.thenN (Wp.seq ?_))
    obtain ⟨hc2,h⟩:=chk_of h
    refine r0 [0,1,4,5,6] [4] [(0,rs34 v0),(1,rs15 v1),(4,.own 4 0),(5,.str (v5 ++ r1.f_Text)),(6,vi v6)] [(4,54,qc41 b4)] (AllP.cons hc2 AllP.nil) (To.thenN (Wp.seq (rg [0,1,4,5,6,30] [4] [(0,rs34 v0),(1,rs15 v1),(4,.own 4 0),(5,.str (v5 ++ r1.f_Text)),(6,vi v6),(30,vb (decide ((List.length (v5 ++ r1.f_Text):Int) > 8192)))] [(4,54,qc41 b4)] (To.thenN (cn h (fun h=>?_) (fun h=>?_))))))
    ·refine Wp.seq (rg [4] [4] [(4,.own 4 0)] [(4,54,[.str [],.str [],.str [],vi 9])] (To.thenN (Wp.ret (To.blockR (To.thenR (To.thenR ?_))))))
     cases h
     exact hQ
    ·refine Wp.skip (To.blockN (To.thenN (rg [0,1,4,5,6] [4] [(0,rs34 v0),(1,rs15 v1),(4,.own 4 0),(5,.str (v5 ++ r1.f_Text)),(ex34 v6)] [(4,54,qc41 b4)] (kt [0,1,4,5,6] [4] [(0,rs34 v0),(1,rs15 v1),(4,.own 4 0),(5,.str (v5 ++ r1.f_Text)),(ex34 v6)] [(4,54,qc41 b4)] (To.again ?_)))))
     exact ih (v5 ++ r1.f_Text) (IntKind.wrap .i64 (v6 + 1)) b4 _ h hQ
  ·refine Wp.exit (To.thenX (To.thenX (kt [4,5] [4] [(4,.own 4 0),(5,.str v5)] [(4,54,qc41 b4)] ?_)))
   cases h
   exact hQ
def ref14_Parts_b (R_ref14_Parts:(List (S_ref13_Part)) → (List (S_api_Var)) → Option (S_ref14_Said)) (n:Nat) (a0:List (S_ref13_Part)) (a1:List (S_api_Var)):Option (S_ref14_Said) :=
 (ref14_Parts_l1 R_ref14_Parts n a0 a1 n [] 0 (S_ref14_Said.mk [] [] [] 0)).bind fun o1 =>
 (Sum.elim (fun o1=>some (S_ref14_Said.mk o1.1 [] [] 0)) (fun o1=>some o1)) o1
abbrev zx42:S_ref14_Said:=S_ref14_Said.mk [] [] [] 0
theorem ok_ref14_Parts_b (R_ref14_Parts:(List (S_ref13_Part)) → (List (S_api_Var)) → Option (S_ref14_Said)) (hR_ref14_Parts:hR40 R_ref14_Parts) (n:Nat) (a0:List (S_ref13_Part)) (a1:List (S_api_Var)) (r:S_ref14_Said) (h:ref14_Parts_b R_ref14_Parts n a0 a1 = some r):CallsX Tryz.prog 49 [rs34 a0,rs15 a1] (.agg (qc41 r)):=by
 unfold ref14_Parts_b at h
 refine xo Tryz.f49 rfl fun F0 w0 _=>?_
 refine Wp.seq (rg [0,1,4] [4] [(0,rs34 a0),(1,rs15 a1),(4,.own 4 0)] [(4,54,[.str [],.str [],.str [],vi 0])] (To.thenN (Wp.seq (rg [0,1,4,5] [4] [(0,rs34 a0),(1,rs15 a1),(4,.own 4 0),(5,.str [])] [(4,54,[.str [],.str [],.str [],vi 0])] (To.thenN (Wp.seq (Wp.seq (rg [0,1,4,5,6] [4] [(0,rs34 a0),(1,rs15 a1),(4,.own 4 0),(5,.str []),(6,vi 0)] [(4,54,[.str [],.str [],.str [],vi 0])] (To.thenN (Wp.block ?_))))))))))
 obtain ⟨o1,ho1,h⟩:=bind_of h
 refine kw [0,1,4,5,6] [4] [(0,rs34 a0),(1,rs15 a1),(4,.own 4 0),(5,.str []),(6,vi 0)] [(4,54,[.str [],.str [],.str [],vi 0])] (Wp.loopL (ok_ref14_Parts_l1 R_ref14_Parts hR_ref14_Parts n a0 a1 n [] 0 zx42 o1 ho1 ?_))
 rcases o1 with o1 | o1
 ·replace h:=sum_l h
  refine To.blockX (To.thenN (Wp.seq (rg [4] [4] [(4,.own 4 0)] [(4,54,[.str o1.1,.str [],.str [],vi 0])] (To.thenN (Wp.ret ?_)))))
  cases h
  exact To.done hΓ (by kernel_rfl)
 ·replace h:=sum_r h
  refine To.blockR (To.thenR ?_)
  cases h
  exact To.done hΓ (by kernel_rfl)
def ref14_Parts:Nat → (List (S_ref13_Part)) → (List (S_api_Var)) → Option (S_ref14_Said)
 | 0=>fun _ _=>none
 | n + 1=>ref14_Parts_b (ref14_Parts n) n
theorem ok_ref14_Parts (n:Nat):∀ (a0:List (S_ref13_Part)) (a1:List (S_api_Var)) (r:S_ref14_Said),ref14_Parts n a0 a1 = some r → CallsX Tryz.prog 49 [rs34 a0,rs15 a1] (.agg (qc41 r)):=by
 induction n with
 | zero=>intro a0 a1 r h; cases h
 | succ n ih=>exact fun a0 a1 r h=>ok_ref14_Parts_b (ref14_Parts n) ih n a0 a1 r h
def ref14_Text (n:Nat) (a0:List UInt8) (a1:List (S_api_Var)):Option (S_ref14_Said) :=
 (ref13_Parse n a0).bind fun r1 =>
 if (r1.2 != 0) = true then (some (S_ref14_Said.mk [] [] [] r1.2))
 else ((ref14_Parts n r1.1 a1).bind fun r2 =>
 some r2)
theorem ok_ref14_Text (n:Nat) (a0:List UInt8) (a1:List (S_api_Var)) (r:S_ref14_Said) (h:ref14_Text n a0 a1 = some r):CallsX Tryz.prog 29 [.str a0,rs15 a1] (.agg (qc41 r)):=by
 unfold ref14_Text at h
 refine xo Tryz.f29 rfl fun F0 w0 _=>?_
 refine Wp.seq (rg [0,1,4] [4] [(0,.str a0),(1,rs15 a1),(4,.own 4 0)] [(4,54,[.str [],.str [],.str [],vi 0])] (To.thenN (Wp.seq ?_)))
 obtain ⟨r1,hr1,h⟩:=bind_of h
 refine rc [] 1 [1,4,5,6] [4] [(1,rs15 a1),(4,.own 4 0),(5,rs34 r1.1),(6,vi r1.2)] [(4,54,[.str [],.str [],.str [],vi 0])] (ok_ref13_Parse n a0 _ hr1) (To.thenN (Wp.seq (Wp.seq (rg [1,4,5,6,13] [4] [(1,rs15 a1),(4,.own 4 0),(5,rs34 r1.1),(6,vi r1.2),(13,vb (r1.2 != 0))] [(4,54,[.str [],.str [],.str [],vi 0])] (To.thenN (cn h (fun h=>?_) (fun h=>?_)))))))
 ·refine Wp.seq (rg [4] [4] [(4,.own 4 0)] [(4,54,[.str [],.str [],.str [],vi r1.2])] (To.thenN (Wp.ret (To.thenR ?_))))
  cases h
  exact To.done hΓ (by kernel_rfl)
 ·refine Wp.skip (To.thenN (Wp.seq ?_))
  obtain ⟨r2,hr2,h⟩:=bind_of h
  refine rc [] 2 [4] [4] [(4,.own 4 0)] [(4,54,qc41 r2)] (ok_ref14_Parts n r1.1 a1 _ hr2) (To.thenN (Wp.ret ?_))
  cases h
  exact To.done hΓ (by kernel_rfl)
def ref14_Node_j1 (R_ref14_Node:S_api_Node → (List (S_api_Var)) → Option (S_api_Node × Int)) (n:Nat) (v1:List (S_api_Var)) (v18:Bool) (b2:S_api_Node) (b4:S_api_Node) (b6:S_api_Node):Option (Sum (S_api_Node × S_api_Node) (Int × S_api_Node)) :=
 if v18 = true then ((ref14_Text n b2.f_Text v1).bind fun r1 =>
 if (r1.f_E != 0) = true then (some (.inr (r1.f_E,(S_api_Node.mk 0 [] [] []))))
 else (some (.inl ((S_api_Node.mk b4.f_Kind b4.f_Text [] []),(S_api_Node.mk b6.f_Kind r1.f_Text b6.f_Keys [])))))
 else (some (.inl ((S_api_Node.mk b4.f_Kind b4.f_Text [] []),(S_api_Node.mk b6.f_Kind b6.f_Text b6.f_Keys []))))
abbrev hR43 (R_ref14_Node:S_api_Node → (List (S_api_Var)) → Option (S_api_Node × Int)):Prop:=∀ (a0:S_api_Node) (a1:List (S_api_Var)) (r:S_api_Node × Int),R_ref14_Node a0 a1 = some r → CallsX Tryz.prog 10 [.agg [vi a0.f_Kind,.str a0.f_Text,ls a0.f_Keys,tn10 a0.f_Kids],rs15 a1] (.tup [.agg [vi r.1.f_Kind,.str r.1.f_Text,ls r.1.f_Keys,tn10 r.1.f_Kids],vi r.2])
abbrev qc44 (x:S_api_Node):List D:=[vi x.f_Kind,.str x.f_Text,.val (.slice none 0 0),.val (.slice none 0 0)]
theorem ok_ref14_Node_j1 (R_ref14_Node:S_api_Node → (List (S_api_Var)) → Option (S_api_Node × Int)) (hR_ref14_Node:hR43 R_ref14_Node) (n:Nat) (v1:List (S_api_Var)) (v18:Bool) (b2:S_api_Node) (b4:S_api_Node) (b6:S_api_Node) (o:Sum (S_api_Node × S_api_Node) (Int × S_api_Node)) (h:ref14_Node_j1 R_ref14_Node n v1 v18 b2 b4 b6 = some o) {F0:Fz} {w0:Pt Tryz.prog} {Q:Exit → Act → World → Prop} (hQ:(Sum.elim (fun s=>To 60 F0 w0 [(1,rs15 v1),(2,.own 2 0),(4,.own 4 0),(6,.own 6 0)] [(2,25,qc12 b2),(4,25,qc44 s.1),(6,25,qc30 s.2)] .normal Q) (fun s=>To 60 F0 w0 [(4,.own 4 0),(5,vi s.1)] [(4,25,qc44 s.2)] .ret Q)) o):Wp Tryz.prog 60 F0 w0 [(1,rs15 v1),(2,.own 2 0),(4,.own 4 0),(6,.own 6 0),(18,vb v18)] [(2,25,qc12 b2),(4,25,qc44 b4),(6,25,qc30 b6)] (cB (cA (cB (cB (cF Tryz.f10))))) Q:=by
 unfold ref14_Node_j1 at h
 refine cn h (fun h=>?_) (fun h=>?_)
 ·refine Wp.seq ?_
  obtain ⟨r1,hr1,h⟩:=bind_of h
  refine rc [] 3 [1,2,4,6,7] [2,4,6,7] [(1,rs15 v1),(2,.own 2 0),(4,.own 4 0),(6,.own 6 0),(7,.own 7 0)] [(2,25,qc12 b2),(4,25,qc44 b4),(6,25,qc30 b6),(7,54,qc41 r1)] (ok_ref14_Text n b2.f_Text v1 _ hr1) (To.thenN (Wp.seq (Wp.seq (rg [1,2,4,6,7,25] [2,4,6,7] [(1,rs15 v1),(2,.own 2 0),(4,.own 4 0),(6,.own 6 0),(7,.own 7 0),(25,vb (r1.f_E != 0))] [(2,25,qc12 b2),(4,25,qc44 b4),(6,25,qc30 b6),(7,54,qc41 r1)] (To.thenN (cn h (fun h=>?_) (fun h=>?_)))))))
  ·refine Wp.seq (Wp.regionD hm hΓ [] [4,5] [4] (K':=[(4,.own 4 0),(5,vi r1.f_E)]) (L':=[(4,25,[vi 0,.str [],.val (.slice none 0 0),.val (.slice none 0 0)])]) (ob:=[]) (by kernel_rfl) AllP.nil (To.thenN (Wp.ret (To.thenR (kt [4,5] [4] [(4,.own 4 0),(5,vi r1.f_E)] [(4,25,[vi 0,.str [],.val (.slice none 0 0),.val (.slice none 0 0)])] ?_)))))
   cases h
   exact hQ
  ·refine Wp.skip (To.thenN (rg [1,2,4,6] [2,4,6] [(1,rs15 v1),(2,.own 2 0),(4,.own 4 0),(6,.own 6 0)] [(2,25,qc12 b2),(4,25,qc44 b4),(6,25,[vi b6.f_Kind,.str r1.f_Text,ls b6.f_Keys,.val (.slice none 0 0)])] (kt [1,2,4,6] [2,4,6] [(1,rs15 v1),(2,.own 2 0),(4,.own 4 0),(6,.own 6 0)] [(2,25,qc12 b2),(4,25,qc44 b4),(6,25,[vi b6.f_Kind,.str r1.f_Text,ls b6.f_Keys,.val (.slice none 0 0)])] ?_)))
   cases h
   exact hQ
 ·refine Wp.skip (kt [1,2,4,6] [2,4,6] [(1,rs15 v1),(2,.own 2 0),(4,.own 4 0),(6,.own 6 0)] [(2,25,qc12 b2),(4,25,qc44 b4),(6,25,qc30 b6)] ?_)
  cases h
  exact hQ
def ref14_Node_l2 (R_ref14_Node:S_api_Node → (List (S_api_Var)) → Option (S_api_Node × Int)) (n:Nat) (v1:List (S_api_Var)) (b2:S_api_Node):Nat → Int → S_api_Node → S_api_Node → Option (Sum (S_api_Node × S_api_Node) (Int × S_api_Node))
 | 0,_,_,_=>none
 | k + 1,v8,b4,b6=>if (decide (v8 < (List.length b2.f_Kids:Int))) = true then (if (decide (0 ≤ v8 ∧ v8 < (List.length b2.f_Kids:Int))) = true then ((R_ref14_Node ((b2.f_Kids)[Int.toNat v8]?.getD (S_api_Node.mk 0 [] [] [])) v1).bind fun r2 =>
 if (r2.2 != 0) = true then (some (.inr (r2.2,(S_api_Node.mk 0 [] [] []))))
 else (if (decide ((List.length b6.f_Kids + List.length ([r2.1]:List (S_api_Node))) * (72 + 1) ≤ limit)) = true then (ref14_Node_l2 R_ref14_Node n v1 b2 k (IntKind.wrap .i64 (v8 + 1)) b4 (S_api_Node.mk b6.f_Kind b6.f_Text b6.f_Keys (b6.f_Kids ++ ([r2.1]:List (S_api_Node))))) else none)) else none)
 else (some (.inl (b4,b6)))
theorem ok_ref14_Node_l2 (R_ref14_Node:S_api_Node → (List (S_api_Var)) → Option (S_api_Node × Int)) (hR_ref14_Node:hR43 R_ref14_Node) (n:Nat) (v1:List (S_api_Var)) (b2:S_api_Node) {F0:Fz} {w0:Pt Tryz.prog} {Q:Exit → Act → World → Prop} (k:Nat):∀ (v8:Int) (b4:S_api_Node) (b6:S_api_Node) (o:Sum (S_api_Node × S_api_Node) (Int × S_api_Node)),ref14_Node_l2 R_ref14_Node n v1 b2 k v8 b4 b6 = some o → (Sum.elim (fun s=>To 60 F0 w0 [(4,.own 4 0),(6,.own 6 0)] [(4,25,qc12 s.1),(6,25,qc28 4363 s.2),(4363,25,[rc25 s.2.f_Kids])] (.exit 0) Q) (fun s=>To 60 F0 w0 [(4,.own 4 0),(5,vi s.1)] [(4,25,qc44 s.2)] .ret Q)) o → WL Tryz.prog 60 F0 w0 [(1,rs15 v1),(2,.own 2 0),(4,.own 4 0),(6,.own 6 0),(8,vi v8)] [(2,25,qc12 b2),(4,25,qc12 b4),(6,25,qc28 4363 b6),(4363,25,[rc25 b6.f_Kids])] (cI (cI (cB (cA (cB (cB (cB (cF Tryz.f10)))))))) Q:=by
 induction k with
 | zero=>intro v8 b4 b6 o h; cases h
 | succ k ih =>
  intro v8 b4 b6 o h hQ
  rw [ref14_Node_l2] at h
  refine WL.round (Wp.seq (Wp.seq (rg [1,2,4,6,8,36] [2,4,6,4363] [(1,rs15 v1),(2,.own 2 0),(4,.own 4 0),(6,.own 6 0),(8,vi v8),(36,vb (ex8 v8 b2))] [(2,25,qc12 b2),(4,25,qc12 b4),(6,25,qc28 4363 b6),(4363,25,[rc25 b6.f_Kids])] (To.thenN (cn h (fun h=>?_) (fun h=>?_))))))
  ·refine Wp.skip (To.thenN (Wp.seq (Wp.block (Wp.seq ?_))))
   obtain ⟨hc4,h⟩:=chk_of h
   obtain ⟨r2,hr2,h⟩:=bind_of h
   refine rr [] [(6,.tup [.agg (qc12 r2.1),vi r2.2])] [] [1,2,4,6,8,9,10] [2,4,6,9,4363] [(1,rs15 v1),(2,.own 2 0),(4,.own 4 0),(6,.own 6 0),(8,vi v8),(9,.own 9 0),(10,vi r2.2)] [(2,25,qc12 b2),(4,25,qc12 b4),(6,25,qc28 4363 b6),(9,25,qc12 r2.1),(4363,25,[rc25 b6.f_Kids])] [_,(true = true → CX Tryz.prog 10 [.agg [vi ((ex7 b2 v8).f_Kind),.str ((ex7 b2 v8).f_Text),ls ((ex7 b2 v8).f_Keys),tn10 ((ex7 b2 v8).f_Kids)],rs15 v1] (.tup [.agg (qc12 r2.1),vi r2.2]))] (AllP.cons hc4 (AllP.cons (fun _=>cx (hR_ref14_Node (ex7 b2 v8) v1 _ hr2)) AllP.nil)) (To.thenN (Wp.seq (Wp.seq (rg [1,2,4,6,8,9,10,50] [2,4,6,9,4363] [(1,rs15 v1),(2,.own 2 0),(4,.own 4 0),(6,.own 6 0),(8,vi v8),(9,.own 9 0),(10,vi r2.2),(50,vb (r2.2 != 0))] [(2,25,qc12 b2),(4,25,qc12 b4),(6,25,qc28 4363 b6),(9,25,qc12 r2.1),(4363,25,[rc25 b6.f_Kids])] (To.thenN (cn h (fun h=>?_) (fun h=>?_)))))))
   ·refine Wp.seq (rg [4,5] [4] [(4,.own 4 0),(5,vi r2.2)] [(4,25,[vi 0,.str [],.val (.slice none 0 0),.val (.slice none 0 0)])] (To.thenN (Wp.ret (To.thenR (To.blockR (To.thenR (To.thenR ?_)))))))
    cases h
    exact hQ
   ·refine Wp.skip (To.thenN ?_)
    obtain ⟨hc3,h⟩:=chk_of h
    refine rr [] [(3,rs26 [r2.1]),(4,rs26 (b6.f_Kids ++ ([r2.1]:List (S_api_Node))))] [] [1,2,4,6,8] [2,4,6,57] [(1,rs15 v1),(2,.own 2 0),(4,.own 4 0),(6,.own 6 0),(8,vi v8)] [(2,25,qc12 b2),(4,25,qc12 b4),(6,25,qc28 57 b6),(57,25,[rc25 (b6.f_Kids ++ ([r2.1]:List (S_api_Node)))])] [(MkOb 4 (qc12 r2.1) 1 (rs26 [r2.1]) ∧ GoodR (rs26 [r2.1])),_,(AppOb zx9 E_api_Node b6.f_Kids (List.flatMap E_api_Node ([r2.1]:List (S_api_Node))) (List.length ([r2.1]:List (S_api_Node))) (rs26 (b6.f_Kids ++ ([r2.1]:List (S_api_Node)))) ∧ GoodR (rs26 (b6.f_Kids ++ ([r2.1]:List (S_api_Node)))))] (AllP.cons (mkOb (by kernel_rfl) rfl (by kernel_rfl) (good_E_api_Node _)) (AllP.cons hc3 (AllP.cons (appOb rfl rfl (good_E_api_Node _)) AllP.nil))) (To.blockN (To.thenN (rg [1,2,4,6,8] [2,4,6,57] [(1,rs15 v1),(2,.own 2 0),(4,.own 4 0),(6,.own 6 0),(ex2 v8)] [(2,25,qc12 b2),(4,25,qc12 b4),(6,25,qc28 57 b6),(57,25,[rc25 (b6.f_Kids ++ ([r2.1]:List (S_api_Node)))])] (nt [1,2,4,6,8] [2,4,6,57] [(57,4363)] [1,2,4,6,8] [2,4,6,4363] [(1,rs15 v1),(2,.own 2 0),(4,.own 4 0),(6,.own 6 0),(ex2 v8)] [(2,25,qc12 b2),(4,25,qc12 b4),(6,25,qc28 4363 b6),(4363,25,[rc25 (b6.f_Kids ++ ([r2.1]:List (S_api_Node)))])] (To.again ?_)))))
    exact ih (IntKind.wrap .i64 (v8 + 1)) b4 (S_api_Node.mk b6.f_Kind b6.f_Text b6.f_Keys (b6.f_Kids ++ ([r2.1]:List (S_api_Node)))) _ h hQ
  ·refine Wp.exit (To.thenX (To.thenX (kt [4,6] [4,6,4363] [(4,.own 4 0),(6,.own 6 0)] [(4,25,qc12 b4),(6,25,qc28 4363 b6),(4363,25,[rc25 b6.f_Kids])] ?_)))
   cases h
   exact hQ
def ref14_Node_b (R_ref14_Node:S_api_Node → (List (S_api_Var)) → Option (S_api_Node × Int)) (n:Nat) (a0:S_api_Node) (a1:List (S_api_Var)):Option (S_api_Node × Int) :=
 (ref14_Node_j1 R_ref14_Node n a1 (a0.f_Kind == 1) a0 (S_api_Node.mk 0 [] [] []) (S_api_Node.mk a0.f_Kind [] a0.f_Keys [])).bind fun o1 =>
 (Sum.elim (fun o1=>(ref14_Node_l2 R_ref14_Node n a1 a0 n 0 (S_api_Node.mk o1.1.f_Kind o1.1.f_Text [] []) (S_api_Node.mk o1.2.f_Kind o1.2.f_Text o1.2.f_Keys [])).bind fun o2 =>
 (Sum.elim (fun o2=>some (o2.2,0)) (fun o2=>some ((S_api_Node.mk o2.2.f_Kind o2.2.f_Text [] []),o2.1))) o2) (fun o1=>some ((S_api_Node.mk o1.2.f_Kind o1.2.f_Text [] []),o1.1))) o1
theorem ok_ref14_Node_b (R_ref14_Node:S_api_Node → (List (S_api_Var)) → Option (S_api_Node × Int)) (hR_ref14_Node:hR43 R_ref14_Node) (n:Nat) (a0:S_api_Node) (a1:List (S_api_Var)) (r:S_api_Node × Int) (h:ref14_Node_b R_ref14_Node n a0 a1 = some r):CallsX Tryz.prog 10 [.agg (qc12 a0),rs15 a1] (.tup [.agg (qc12 r.1),vi r.2]):=by
 unfold ref14_Node_b at h
 refine xo Tryz.f10 rfl fun F0 w0 _=>?_
 refine Wp.seq (rg [1,2,4] [2,4] [(1,rs15 a1),(2,.own 2 0),(4,.own 4 0)] [(2,25,qc12 a0),(4,25,[vi 0,.str [],.val (.slice none 0 0),.val (.slice none 0 0)])] (To.thenN (Wp.seq (rg [1,2,4,6] [2,4,6] [(1,rs15 a1),(2,.own 2 0),(4,.own 4 0),(6,.own 6 0)] [(2,25,qc12 a0),(4,25,[vi 0,.str [],.val (.slice none 0 0),.val (.slice none 0 0)]),(6,25,[vi a0.f_Kind,.str [],ls a0.f_Keys,.val (.slice none 0 0)])] (To.thenN (Wp.seq (Wp.seq (rg [1,2,4,6,18] [2,4,6] [(1,rs15 a1),(2,.own 2 0),(4,.own 4 0),(6,.own 6 0),(18,vb (a0.f_Kind == 1))] [(2,25,qc12 a0),(4,25,[vi 0,.str [],.val (.slice none 0 0),.val (.slice none 0 0)]),(6,25,[vi a0.f_Kind,.str [],ls a0.f_Keys,.val (.slice none 0 0)])] (To.thenN ?_)))))))))
 obtain ⟨o1,ho1,h⟩:=bind_of h
 refine kw [1,2,4,6,18] [2,4,6] [(1,rs15 a1),(2,.own 2 0),(4,.own 4 0),(6,.own 6 0),(18,vb (a0.f_Kind == 1))] [(2,25,qc12 a0),(4,25,[vi 0,.str [],.val (.slice none 0 0),.val (.slice none 0 0)]),(6,25,[vi a0.f_Kind,.str [],ls a0.f_Keys,.val (.slice none 0 0)])] (ok_ref14_Node_j1 R_ref14_Node hR_ref14_Node n a1 (a0.f_Kind == 1) a0 zx9 (S_api_Node.mk a0.f_Kind [] a0.f_Keys []) o1 ho1 ?_)
 rcases o1 with o1 | o1
 ·replace h:=sum_l h
  refine To.thenN (Wp.seq (Wp.seq (rg [1,2,4,6,8] [2,4,6] [(1,rs15 a1),(2,.own 2 0),(4,.own 4 0),(6,.own 6 0),(8,vi 0)] [(2,25,qc12 a0),(4,25,qc44 o1.1),(6,25,qc30 o1.2)] (To.thenN (Wp.block ?_)))))
  obtain ⟨o2,ho2,h⟩:=bind_of h
  refine kw [1,2,4,6,8] [2,4,6] [(1,rs15 a1),(2,.own 2 0),(4,.own 4 0),(6,.own 6 0),(8,vi 0)] [(2,25,qc12 a0),(4,25,qc44 o1.1),(6,25,qc30 o1.2)] (Wp.pre (St.vacantB 6 3 4363 25 (good_E_api_Node _) (by decide) (by kernel_rfl) (L':=[(2,25,qc12 a0),(4,25,qc44 o1.1),(6,25,qc28 4363 o1.2)]) (by kernel_rfl)) (kw [1,2,4,6,8] [2,4,6,4363] [(1,rs15 a1),(2,.own 2 0),(4,.own 4 0),(6,.own 6 0),(8,vi 0)] [(2,25,qc12 a0),(4,25,qc44 o1.1),(6,25,qc28 4363 o1.2),(4363,25,[rc25 []])] (Wp.weak (K':=[(1,rs15 a1),(2,.own 2 0),(4,.own 4 0),(6,.own 6 0),(8,vi 0)]) (L':=[(2,25,qc12 a0),(4,25,[vi o1.1.f_Kind,.str o1.1.f_Text,ls [],tn10 []]),(6,25,qc28 4363 o1.2),(4363,25,[rc25 []])]) (.cons (.refl _) (.cons (.refl _) (.cons (.refl _) (.cons (.refl _) (.cons (.refl _) .nil))))) (.cons (.cons (.refl _) (.cons (.refl _) (.cons (.refl _) (.cons (.refl _) .nil)))) (.cons (.cons (.refl _) (.cons (.refl _) (.cons (.zero _ _) (.cons (.zeroT _ _ _) .nil)))) (.cons (.cons (.refl _) (.cons (.refl _) (.cons (.refl _) (.cons (.refl _) .nil)))) (.cons (.cons (.refl _) .nil) .nil)))) (Wp.loopL (ok_ref14_Node_l2 R_ref14_Node hR_ref14_Node n a1 a0 n 0 (S_api_Node.mk o1.1.f_Kind o1.1.f_Text [] []) (S_api_Node.mk o1.2.f_Kind o1.2.f_Text o1.2.f_Keys []) o2 ho2 ?_)))))
  rcases o2 with o2 | o2
  ·replace h:=sum_l h
   refine To.blockX (To.thenN (Wp.seq (rg [4,5] [4,4363] [(4,.own 4 0),(5,vi 0)] [(4,25,qc28 4363 o2.2),(4363,25,[rc25 o2.2.f_Kids])] (To.thenN (Wp.ret (To.pre (St.settle (ks:=[4363]) (kk:=[4,5]) (kl:=[4,4363]) (K':=[(4,.own 4 0),(5,vi 0)]) (L':=[(4,25,qc28 4363 o2.2),(4363,25,[rc29 o2.2.f_Kids])]) (by kernel_rfl)) (To.pre (St.sealB [4] (L':=[(4,25,qc31 o2.2),(4363,25,[rc29 o2.2.f_Kids])]) (by kernel_rfl)) (To.weak (K':=[(4,.own 4 0),(5,vi 0)]) (L':=[(4,25,qc12 o2.2),(4363,25,[rc29 o2.2.f_Kids])]) (.cons (.refl _) (.cons (.refl _) .nil)) (.cons (.cons (.refl _) (.cons (.refl _) (.cons (.refl _) (.cons (.close _ _ _ _) .nil)))) (.cons (.cons (.refl _) .nil) .nil)) ?_))))))))
   cases h
   exact To.done hΓ (by kernel_rfl)
  ·replace h:=sum_r h
   refine To.blockR (To.thenR (kt [4,5] [4] [(4,.own 4 0),(5,vi o2.1)] [(4,25,qc44 o2.2)] (To.weak (K':=[(4,.own 4 0),(5,vi o2.1)]) (L':=[(4,25,[vi o2.2.f_Kind,.str o2.2.f_Text,ls [],tn10 []])]) (.cons (.refl _) (.cons (.refl _) .nil)) (.cons (.cons (.refl _) (.cons (.refl _) (.cons (.zero _ _) (.cons (.zeroT _ _ _) .nil)))) .nil) ?_)))
   cases h
   exact To.done hΓ (by kernel_rfl)
 ·replace h:=sum_r h
  refine To.thenR (kt [4,5] [4] [(4,.own 4 0),(5,vi o1.1)] [(4,25,qc44 o1.2)] (To.weak (K':=[(4,.own 4 0),(5,vi o1.1)]) (L':=[(4,25,[vi o1.2.f_Kind,.str o1.2.f_Text,ls [],tn10 []])]) (.cons (.refl _) (.cons (.refl _) .nil)) (.cons (.cons (.refl _) (.cons (.refl _) (.cons (.zero _ _) (.cons (.zeroT _ _ _) .nil)))) .nil) ?_))
  cases h
  exact To.done hΓ (by kernel_rfl)
def ref14_Node:Nat → S_api_Node → (List (S_api_Var)) → Option (S_api_Node × Int)
 | 0=>fun _ _=>none
 | n + 1=>ref14_Node_b (ref14_Node n) n
theorem ok_ref14_Node (n:Nat):∀ (a0:S_api_Node) (a1:List (S_api_Var)) (r:S_api_Node × Int),ref14_Node n a0 a1 = some r → CallsX Tryz.prog 10 [.agg (qc12 a0),rs15 a1] (.tup [.agg (qc12 r.1),vi r.2]):=by
 induction n with
 | zero=>intro a0 a1 r h; cases h
 | succ n ih=>exact fun a0 a1 r h=>ok_ref14_Node_b (ref14_Node n) ih n a0 a1 r h
def ref02_Same_l1 (n:Nat) (v0:List (List UInt8)) (v1:List (List UInt8)):Nat → Int → Option (Sum (Unit) (Bool))
 | 0,_=>none
 | k + 1,v5=>if (decide (v5 < (List.length v0:Int))) = true then (if (decide (0 ≤ v5 ∧ v5 < (List.length v0:Int))) = true then (if (decide (0 ≤ v5 ∧ v5 < (List.length v1:Int))) = true then (if (!(((v0)[Int.toNat v5]?.getD []) == ((v1)[Int.toNat v5]?.getD []))) = true then (some (.inr false))
 else (ref02_Same_l1 n v0 v1 k (IntKind.wrap .i64 (v5 + 1)))) else none) else none)
 else (some (.inl ()))
theorem ok_ref02_Same_l1 (n:Nat) (v0:List (List UInt8)) (v1:List (List UInt8)) {F0:Fz} {w0:Pt Tryz.prog} {Q:Exit → Act → World → Prop} (k:Nat):∀ (v5:Int) (o:Sum (Unit) (Bool)),ref02_Same_l1 n v0 v1 k v5 = some o → (Sum.elim (fun s=>To 26 F0 w0 [] [] (.exit 0) Q) (fun s=>To 26 F0 w0 [(4,vb s)] [] .ret Q)) o → WL Tryz.prog 26 F0 w0 [(0,ls v0),(1,ls v1),(5,vi v5)] [] (cI (cI (cB (cA (cB (cB (cF Tryz.f12))))))) Q:=by
 induction k with
 | zero=>intro v5 o h; cases h
 | succ k ih =>
  intro v5 o h hQ
  rw [ref02_Same_l1] at h
  refine WL.round (Wp.seq (Wp.seq (rg [0,1,5,14] [] [(0,ls v0),(1,ls v1),(5,vi v5),(14,vb (ex5 v5 v0))] [] (To.thenN (cn h (fun h=>?_) (fun h=>?_))))))
  ·refine Wp.skip (To.thenN (Wp.seq (Wp.block (Wp.seq ?_))))
   obtain ⟨hc1,h⟩:=chk_of h
   obtain ⟨hc2,h⟩:=chk_of h
   refine Wp.regionD hm hΓ [] [0,1,5,25] [] (K':=[(0,ls v0),(1,ls v1),(5,vi v5),(25,vb (!(((v0)[Int.toNat v5]?.getD []) == ((v1)[Int.toNat v5]?.getD []))))]) (L':=[]) (ob:=[(decide (ex4 v5 v0)) = true,(decide (ex4 v5 v1)) = true]) (by kernel_rfl) (AllP.cons hc1 (AllP.cons hc2 AllP.nil)) (To.thenN (cn h (fun h=>?_) (fun h=>?_)))
   ·refine Wp.seq (rg [4] [] [(4,vb false)] [] (To.thenN (Wp.ret (To.blockR (To.thenR (To.thenR ?_))))))
    cases h
    exact hQ
   ·refine Wp.skip (To.blockN (To.thenN (rg [0,1,5] [] [(0,ls v0),(1,ls v1),(ex6 v5)] [] (kt [0,1,5] [] [(0,ls v0),(1,ls v1),(ex6 v5)] [] (To.again ?_)))))
    exact ih (IntKind.wrap .i64 (v5 + 1)) _ h hQ
  ·refine Wp.exit (To.thenX (To.thenX (kt [] [] [] [] ?_)))
   cases h
   exact hQ
def ref02_Same (n:Nat) (a0:List (List UInt8)) (a1:List (List UInt8)):Option (Bool) :=
 if ((List.length a0:Int) != (List.length a1:Int)) = true then some false
 else ((ref02_Same_l1 n a0 a1 n 0).bind fun o1 =>
 (Sum.elim (fun o1=>some true) (fun o1=>some o1)) o1)
theorem ok_ref02_Same (n:Nat) (a0:List (List UInt8)) (a1:List (List UInt8)) (r:Bool) (h:ref02_Same n a0 a1 = some r):CallsX Tryz.prog 12 [ls a0,ls a1] (vb r):=by
 unfold ref02_Same at h
 refine xo Tryz.f12 rfl fun F0 w0 _=>?_
 refine Wp.seq (rg [0,1] [] [(0,ls a0),(1,ls a1)] [] (To.thenN (Wp.seq (Wp.seq (rg [0,1,10] [] [(0,ls a0),(1,ls a1),(10,vb ((List.length a0:Int) != (List.length a1:Int)))] [] (To.thenN (cn h (fun h=>?_) (fun h=>?_))))))))
 ·refine Wp.seq (rg [4] [] [(4,vb false)] [] (To.thenN (Wp.ret (To.thenR ?_))))
  cases h
  exact To.done hΓ (by kernel_rfl)
 ·refine Wp.skip (To.thenN (Wp.seq (Wp.seq (rg [0,1,5] [] [(0,ls a0),(1,ls a1),(5,vi 0)] [] (To.thenN (Wp.block ?_))))))
  obtain ⟨o1,ho1,h⟩:=bind_of h
  refine kw [0,1,5] [] [(0,ls a0),(1,ls a1),(5,vi 0)] [] (Wp.loopL (ok_ref02_Same_l1 n a0 a1 n 0 o1 ho1 ?_))
  rcases o1 with o1 | o1
  ·replace h:=sum_l h
   refine To.blockX (To.thenN (Wp.seq (rg [4] [] [(4,vb true)] [] (To.thenN (Wp.ret ?_)))))
   cases h
   exact To.done hΓ (by kernel_rfl)
  ·replace h:=sum_r h
   refine To.blockR (To.thenR ?_)
   cases h
   exact To.done hΓ (by kernel_rfl)
def ref08_Same_l1 (R_ref08_Same:S_api_Node → S_api_Node → Option (Bool)) (n:Nat) (b2:S_api_Node) (b3:S_api_Node):Nat → Int → Option (Sum (Unit) (Bool))
 | 0,_=>none
 | k + 1,v5=>if (decide (v5 < (List.length b2.f_Kids:Int))) = true then (if (decide (0 ≤ v5 ∧ v5 < (List.length b2.f_Kids:Int))) = true then (if (decide (0 ≤ v5 ∧ v5 < (List.length b3.f_Kids:Int))) = true then ((R_ref08_Same ((b2.f_Kids)[Int.toNat v5]?.getD (S_api_Node.mk 0 [] [] [])) ((b3.f_Kids)[Int.toNat v5]?.getD (S_api_Node.mk 0 [] [] []))).bind fun r3 =>
 if (!r3) = true then (some (.inr false))
 else (ref08_Same_l1 R_ref08_Same n b2 b3 k (IntKind.wrap .i64 (v5 + 1)))) else none) else none)
 else (some (.inl ()))
abbrev hR45 (R_ref08_Same:S_api_Node → S_api_Node → Option (Bool)):Prop:=∀ (a0:S_api_Node) (a1:S_api_Node) (r:Bool),R_ref08_Same a0 a1 = some r → CallsX Tryz.prog 11 [.agg [vi a0.f_Kind,.str a0.f_Text,ls a0.f_Keys,tn10 a0.f_Kids],.agg [vi a1.f_Kind,.str a1.f_Text,ls a1.f_Keys,tn10 a1.f_Kids]] (vb r)
theorem ok_ref08_Same_l1 (R_ref08_Same:S_api_Node → S_api_Node → Option (Bool)) (hR_ref08_Same:hR45 R_ref08_Same) (n:Nat) (b2:S_api_Node) (b3:S_api_Node) {F0:Fz} {w0:Pt Tryz.prog} {Q:Exit → Act → World → Prop} (k:Nat):∀ (v5:Int) (o:Sum (Unit) (Bool)),ref08_Same_l1 R_ref08_Same n b2 b3 k v5 = some o → (Sum.elim (fun s=>To 54 F0 w0 [] [] (.exit 0) Q) (fun s=>To 54 F0 w0 [(4,vb s)] [] .ret Q)) o → WL Tryz.prog 54 F0 w0 [(2,.own 2 0),(3,.own 3 0),(5,vi v5)] [(2,25,qc12 b2),(3,25,qc12 b3)] (cI (cI (cB (cA (cB (cB (cF Tryz.f11))))))) Q:=by
 induction k with
 | zero=>intro v5 o h; cases h
 | succ k ih =>
  intro v5 o h hQ
  rw [ref08_Same_l1] at h
  refine WL.round (Wp.seq (Wp.seq (rg [2,3,5,39] [2,3] [(2,.own 2 0),(3,.own 3 0),(5,vi v5),(39,vb (ex8 v5 b2))] [(2,25,qc12 b2),(3,25,qc12 b3)] (To.thenN (cn h (fun h=>?_) (fun h=>?_))))))
  ·refine Wp.skip (To.thenN (Wp.seq (Wp.block (Wp.seq ?_))))
   obtain ⟨hc4,h⟩:=chk_of h
   obtain ⟨hc5,h⟩:=chk_of h
   obtain ⟨r3,hr3,h⟩:=bind_of h
   refine Wp.regionD hm hΓ [(10,vb r3)] [2,3,5,53] [2,3] (K':=[(2,.own 2 0),(3,.own 3 0),(5,vi v5),(53,vb (!r3))]) (L':=[(2,25,qc12 b2),(3,25,qc12 b3)]) (ob:=[(ex9 v5 b2) = true,(ex9 v5 b3) = true,(true = true → CX Tryz.prog 11 [.agg [vi ((ex7 b2 v5).f_Kind),.str ((ex7 b2 v5).f_Text),ls ((ex7 b2 v5).f_Keys),tn10 ((ex7 b2 v5).f_Kids)],.agg [vi ((ex7 b3 v5).f_Kind),.str ((ex7 b3 v5).f_Text),ls ((ex7 b3 v5).f_Keys),tn10 ((ex7 b3 v5).f_Kids)]] (vb r3))]) (by kernel_rfl) (AllP.cons hc4 (AllP.cons hc5 (AllP.cons (fun _=>cx (hR_ref08_Same (ex7 b2 v5) (ex7 b3 v5) _ hr3)) AllP.nil))) (To.thenN (cn h (fun h=>?_) (fun h=>?_)))
   ·refine Wp.seq (rg [4] [] [(4,vb false)] [] (To.thenN (Wp.ret (To.blockR (To.thenR (To.thenR ?_))))))
    cases h
    exact hQ
   ·refine Wp.skip (To.blockN (To.thenN (rg [2,3,5] [2,3] [(2,.own 2 0),(3,.own 3 0),(ex6 v5)] [(2,25,qc12 b2),(3,25,qc12 b3)] (kt [2,3,5] [2,3] [(2,.own 2 0),(3,.own 3 0),(ex6 v5)] [(2,25,qc12 b2),(3,25,qc12 b3)] (To.again ?_)))))
    exact ih (IntKind.wrap .i64 (v5 + 1)) _ h hQ
  ·refine Wp.exit (To.thenX (To.thenX (kt [] [] [] [] ?_)))
   cases h
   exact hQ
def ref08_Same_b (R_ref08_Same:S_api_Node → S_api_Node → Option (Bool)) (n:Nat) (a0:S_api_Node) (a1:S_api_Node):Option (Bool) :=
 ((if ((bif (a0.f_Kind != a1.f_Kind) then true else (!(a0.f_Text == a1.f_Text))) == false) = true then ref02_Same n a0.f_Keys a1.f_Keys else some false)).bind fun r1 =>
 lett ((bif (bif (bif (a0.f_Kind != a1.f_Kind) then true else (!(a0.f_Text == a1.f_Text))) then true else (!r1)) then true else ((List.length a0.f_Kids:Int) != (List.length a1.f_Kids:Int))):Bool) fun x2 =>
 if x2 = true then some false
 else ((ref08_Same_l1 R_ref08_Same n a0 a1 n 0).bind fun o3 =>
 (Sum.elim (fun o3=>some true) (fun o3=>some o3)) o3)
theorem ok_ref08_Same_b (R_ref08_Same:S_api_Node → S_api_Node → Option (Bool)) (hR_ref08_Same:hR45 R_ref08_Same) (n:Nat) (a0:S_api_Node) (a1:S_api_Node) (r:Bool) (h:ref08_Same_b R_ref08_Same n a0 a1 = some r):CallsX Tryz.prog 11 [.agg (qc12 a0),.agg (qc12 a1)] (vb r):=by
 unfold ref08_Same_b at h
 refine xo Tryz.f11 rfl fun F0 w0 _=>?_
 refine Wp.seq (rg [2,3] [2,3] [(2,.own 2 0),(3,.own 3 0)] [(2,25,qc12 a0),(3,25,qc12 a1)] (To.thenN (Wp.seq (Wp.seq ?_))))
 obtain ⟨r1,hr1,h⟩:=bind_of h
 obtain ⟨x2,hx2,h⟩:=lett_of h
 refine rr [] [(17,vb r1)] [] [2,3,34] [2,3] [(2,.own 2 0),(3,.own 3 0),(34,vb (bif (bif (bif (a0.f_Kind != a1.f_Kind) then true else (!(a0.f_Text == a1.f_Text))) then true else (!r1)) then true else ((List.length a0.f_Kids:Int) != (List.length a1.f_Kids:Int))))] [(2,25,qc12 a0),(3,25,qc12 a1)] [(((bif (a0.f_Kind != a1.f_Kind) then true else (!(a0.f_Text == a1.f_Text))) == false) = true → CX Tryz.prog 12 [ls a0.f_Keys,ls a1.f_Keys] (vb r1))] (AllP.cons (fun hg=>cx (ok_ref02_Same n a0.f_Keys a1.f_Keys _ (if_t hg hr1))) AllP.nil) (To.eq (K':=[(2,.own 2 0),(3,.own 3 0),(34,vb x2)]) (L':=[(2,25,qc12 a0),(3,25,qc12 a1)]) (by cases hx2; rfl) (by cases hx2; rfl) (To.thenN (cn h (fun h=>?_) (fun h=>?_))))
 ·refine Wp.seq (rg [4] [] [(4,vb false)] [] (To.thenN (Wp.ret (To.thenR ?_))))
  cases h
  exact To.done hΓ (by kernel_rfl)
 ·refine Wp.skip (To.thenN (Wp.seq (Wp.seq (rg [2,3,5] [2,3] [(2,.own 2 0),(3,.own 3 0),(5,vi 0)] [(2,25,qc12 a0),(3,25,qc12 a1)] (To.thenN (Wp.block ?_))))))
  obtain ⟨o3,ho3,h⟩:=bind_of h
  refine kw [2,3,5] [2,3] [(2,.own 2 0),(3,.own 3 0),(5,vi 0)] [(2,25,qc12 a0),(3,25,qc12 a1)] (Wp.loopL (ok_ref08_Same_l1 R_ref08_Same hR_ref08_Same n a0 a1 n 0 o3 ho3 ?_))
  rcases o3 with o3 | o3
  ·replace h:=sum_l h
   refine To.blockX (To.thenN (Wp.seq (rg [4] [] [(4,vb true)] [] (To.thenN (Wp.ret ?_)))))
   cases h
   exact To.done hΓ (by kernel_rfl)
  ·replace h:=sum_r h
   refine To.blockR (To.thenR ?_)
   cases h
   exact To.done hΓ (by kernel_rfl)
def ref08_Same:Nat → S_api_Node → S_api_Node → Option (Bool)
 | 0=>fun _ _=>none
 | n + 1=>ref08_Same_b (ref08_Same n) n
theorem ok_ref08_Same (n:Nat):∀ (a0:S_api_Node) (a1:S_api_Node) (r:Bool),ref08_Same n a0 a1 = some r → CallsX Tryz.prog 11 [.agg (qc12 a0),.agg (qc12 a1)] (vb r):=by
 induction n with
 | zero=>intro a0 a1 r h; cases h
 | succ n ih=>exact fun a0 a1 r h=>ok_ref08_Same_b (ref08_Same n) ih n a0 a1 r h
def name_Sorted (n:Nat) (a0:List (List UInt8)):Option ((List (List UInt8))) :=
 if (decide ((List.length ([]:List (List UInt8)) + List.length a0) * (16 + 1) ≤ limit)) = true then (if (decide (List.length (([]:List (List UInt8)) ++ a0) * 17 ≤ limit)) = true then (if (decide (List.length (Sh.sort (([]:List (List UInt8)) ++ a0)) * 17 ≤ limit)) = true then (some (Lib.compact (Sh.sort (([]:List (List UInt8)) ++ a0)))) else none) else none) else none
def tmpl_reader_parts_o__o0_j2 (n:Nat) (v1:Int) (v8:Int) (b5:List (S_tmpl_Part)) (b6:List (UInt8)) (b1000000:S_tmpl_reader):Option ((List (S_tmpl_Part)) × (List (UInt8)) × S_tmpl_reader) :=
 if (decide (0 ≤ b1000000.f_at ∧ b1000000.f_at ≤ (List.length b1000000.f_s:Int))) = true then (if (Lib.hasPrefix (List.drop (Int.toNat b1000000.f_at) b1000000.f_s) ([36]:List UInt8)) = true then (if (decide (0 ≤ v8 ∧ v8 < 256)) = true then (if (decide ((List.length b6 + List.length ([(UInt8.ofNat (Int.toNat v8))]:List (UInt8))) * (1 + 1) ≤ limit)) = true then (some (b5,(b6 ++ ([(UInt8.ofNat (Int.toNat v8))]:List (UInt8))),(S_tmpl_reader.mk b1000000.f_s (IntKind.wrap .i64 (b1000000.f_at + 1)) b1000000.f_e))) else none) else none)
 else (if (decide (0 ≤ b1000000.f_at ∧ b1000000.f_at ≤ (List.length b1000000.f_s:Int))) = true then (if (Lib.hasPrefix (List.drop (Int.toNat b1000000.f_at) b1000000.f_s) ([123]:List UInt8)) = true then ((tmpl_reader_parts_1__o0__o1 n b6 b5).bind fun r6 =>
 (tmpl_reader_reference__o0 (tmpl_reader_parts__o0 n) n v1 (S_tmpl_reader.mk b1000000.f_s (IntKind.wrap .i64 (b1000000.f_at + 1)) b1000000.f_e)).bind fun r7 =>
 if (decide ((List.length r6.2 + List.length ([(S_tmpl_Part.mk [] [] 0 [])]:List (S_tmpl_Part))) * (64 + 1) ≤ limit)) = true then (if (decide (0 ≤ (List.length r6.2:Int) ∧ (List.length r6.2:Int) < (List.length (r6.2 ++ ([(S_tmpl_Part.mk [] [] 0 [])]:List (S_tmpl_Part))):Int))) = true then (some ((List.set (r6.2 ++ ([(S_tmpl_Part.mk [] [] 0 [])]:List (S_tmpl_Part))) (Int.toNat (List.length r6.2:Int)) r7.1),r6.1,r7.2)) else none) else none)
 else ((tmpl_reader_parts_1__o0__o1 n b6 b5).bind fun r10 =>
 (tmpl_reader_plain__o0 n v1 b1000000).bind fun r11 =>
 if (decide ((List.length r10.2 + List.length ([(S_tmpl_Part.mk [] [] 0 [])]:List (S_tmpl_Part))) * (64 + 1) ≤ limit)) = true then (if (decide (0 ≤ (List.length r10.2:Int) ∧ (List.length r10.2:Int) < (List.length (r10.2 ++ ([(S_tmpl_Part.mk [] [] 0 [])]:List (S_tmpl_Part))):Int))) = true then (some ((List.set (r10.2 ++ ([(S_tmpl_Part.mk [] [] 0 [])]:List (S_tmpl_Part))) (Int.toNat (List.length r10.2:Int)) r11.1),r10.1,r11.2)) else none) else none)) else none)) else none
theorem ok_tmpl_reader_parts_o__o0_j2 (n:Nat) (v1:Int) (v8:Int) (b5:List (S_tmpl_Part)) (b6:List (UInt8)) (b1000000:S_tmpl_reader) (o:(List (S_tmpl_Part)) × (List (UInt8)) × S_tmpl_reader) (h:tmpl_reader_parts_o__o0_j2 n v1 v8 b5 b6 b1000000 = some o) {F0:Fz} {w0:Pt Tryz.prog} {Q:Exit → Act → World → Prop} (hQ:To 128 F0 w0 [(0,.own 1000000 0),(1,vi v1),(5,.own 5 0),(6,.own 6 0),(7,.fn 72 [.own 6 0,.own 5 0])] [(5,56,[.row 4300]),(6,75,[.row 4360]),(4300,91,[rc16 o.1]),(4360,5,[rc4 o.2.1]),(1000000,88,qc17 o.2.2)] .normal Q):Wp Tryz.prog 128 F0 w0 [(0,.own 1000000 0),(1,vi v1),(5,.own 5 0),(6,.own 6 0),(7,.fn 72 [.own 6 0,.own 5 0]),(8,.val (.int .u8 v8))] [(5,56,[.row 4300]),(6,75,[.row 4360]),(4300,91,[rc16 b5]),(4360,5,[rc4 b6]),(1000000,88,qc17 b1000000)] (cA (cB (cB (cB (cB (cB (cB (cB (cB (cI (cB (cF Tryz.f50)))))))))))) Q:=by
 unfold tmpl_reader_parts_o__o0_j2 at h
 refine Wp.block (Wp.seq ?_)
 obtain ⟨hc15,h⟩:=chk_of h
 refine Wp.regionD hm hΓ [(9,vb (ex57 b1000000))] [0,1,5,6,7,8,78] [5,6,4300,4360,1000000] (K':=[(0,.own 1000000 0),(1,vi v1),(5,.own 5 0),(6,.own 6 0),(7,.fn 72 [.own 6 0,.own 5 0]),(8,.val (.int .u8 v8)),(78,vb (ex57 b1000000))]) (L':=[(5,56,[.row 4300]),(6,75,[.row 4360]),(4300,91,[rc16 b5]),(4360,5,[rc4 b6]),(1000000,88,qc17 b1000000)]) (ob:=[(ex59 b1000000) = true,(true = true → CX Tryz.prog 73 [.str (ex26 b1000000),.str [36]] (vb (ex57 b1000000)))]) (by kernel_rfl) (AllP.cons hc15 (AllP.cons (fun _=>cx (Sh.hasPrefix73)) AllP.nil)) (To.thenN (cn h (fun h=>?_) (fun h=>?_)))
 ·refine Wp.seq ?_
  obtain ⟨u4,h⟩:=chk_of h
  obtain ⟨hc5,h⟩:=chk_of h
  refine rr [] [(ex30 v8),(3,rs19 (b6 ++ (ex27 v8)))] [] [0,1,5,6,7] [5,6,92,4300,1000000] [(0,.own 1000000 0),(1,vi v1),(5,.own 5 0),(6,.own 6 0),(7,.fn 72 [.own 6 0,.own 5 0])] [(5,56,[.row 4300]),(6,75,[.row 92]),(ex60 b6 v8),(4300,91,[rc16 b5]),(1000000,88,qc17 b1000000)] [(ex28 v8),_,(ex58 b6 v8)] (AllP.cons (mkOb (All8.cells (ns:=[v8]) (.cons (u8_of u4) .nil)) rfl rfl (good8 _)) (AllP.cons hc5 (AllP.cons (appOb rfl rfl (good8 _)) AllP.nil))) (To.thenN (rg [0,1,5,6,7] [5,6,92,4300,1000000] [(0,.own 1000000 0),(1,vi v1),(5,.own 5 0),(6,.own 6 0),(7,.fn 72 [.own 6 0,.own 5 0])] [(5,56,[.row 4300]),(6,75,[.row 92]),(ex60 b6 v8),(4300,91,[rc16 b5]),(ex22 b1000000)] (To.blockN (nt [0,1,5,6,7] [5,6,92,4300,1000000] [(92,4360)] [0,1,5,6,7] [5,6,4300,4360,1000000] [(0,.own 1000000 0),(1,vi v1),(5,.own 5 0),(6,.own 6 0),(7,.fn 72 [.own 6 0,.own 5 0])] [(5,56,[.row 4300]),(6,75,[.row 4360]),(4300,91,[rc16 b5]),(ex62 b6 v8),(ex22 b1000000)] ?_))))
  cases h
  exact hQ
 ·refine Wp.seq ?_
  obtain ⟨hc14,h⟩:=chk_of h
  refine Wp.regionD hm hΓ [(9,vb (ex56 b1000000))] [0,1,5,6,7,100] [5,6,4300,4360,1000000] (K':=[(0,.own 1000000 0),(1,vi v1),(5,.own 5 0),(6,.own 6 0),(7,.fn 72 [.own 6 0,.own 5 0]),(100,vb (ex56 b1000000))]) (L':=[(5,56,[.row 4300]),(6,75,[.row 4360]),(4300,91,[rc16 b5]),(4360,5,[rc4 b6]),(1000000,88,qc17 b1000000)]) (ob:=[(ex59 b1000000) = true,(true = true → CX Tryz.prog 73 [.str (ex26 b1000000),.str [123]] (vb (ex56 b1000000)))]) (by kernel_rfl) (AllP.cons hc14 (AllP.cons (fun _=>cx (Sh.hasPrefix73)) AllP.nil)) (To.thenN (cn h (fun h=>?_) (fun h=>?_)))
  ·refine Wp.seq (rg [0,1,5,6,7] [5,6,4300,4360,1000000] [(0,.own 1000000 0),(1,vi v1),(5,.own 5 0),(6,.own 6 0),(7,.fn 72 [.own 6 0,.own 5 0])] [(5,56,[.row 4300]),(6,75,[.row 4360]),(4300,91,[rc16 b5]),(4360,5,[rc4 b6]),(ex22 b1000000)] (To.thenN (Wp.seq ?_)))
   obtain ⟨r6,hr6,h⟩:=bind_of h
   refine rb [] 1 ⟨[(1000000,6),(1000001,5),(1010000,4360),(1010100,4300)],[(200,4360),(300,4300),(1000000,6),(1000001,5)],[.own 1000000 0,.own 1000001 0],[(1000000,75,[.row 1010000]),(1000001,56,[.row 1010100]),(1010000,5,[rc4 b6]),(1010100,91,[rc16 b5])],.tup [],[(200,5,[rc4 r6.1]),(300,91,[rc16 r6.2]),(1000000,75,[.row 200]),(1000001,56,[.row 300])]⟩ [0,1,5,6,7] [5,6,4300,4360,1000000] [(0,.own 1000000 0),(1,vi v1),(5,.own 5 0),(6,.own 6 0),(7,.fn 72 [.own 6 0,.own 5 0])] [(5,56,[.row 4300]),(6,75,[.row 4360]),(4300,91,[rc16 r6.2]),(4360,5,[rc4 r6.1]),(ex22 b1000000)] ((ok_tmpl_reader_parts_1__o0__o1 n b6 b5 _ hr6)) (To.thenN ?_)
   obtain ⟨r7,hr7,h⟩:=bind_of h
   obtain ⟨hc8,h⟩:=chk_of h
   obtain ⟨hc9,h⟩:=chk_of h
   refine Wp.regionO hm hΓ [] [(5,rs3 ([zx2])),(6,rs3 (r6.2 ++ ([zx2]:List (S_tmpl_Part)))),(8,rs3 (List.set (r6.2 ++ ([zx2]:List (S_tmpl_Part))) (Int.toNat (List.length r6.2:Int)) r7.1))] [(3,⟨[(1000000,1000000)],[(1000000,1000000)],[.own 1000000 0,vi v1],[(ex22 b1000000)],.agg (qc7 r7.1),[(1000000,88,qc17 r7.2)]⟩)] [0,1,5,6,7,120,121,122,123,124,125,126,127] [5,6,125,126,4300,4360,1000000] [0,1,5,6,7] [5,6,126,4360,1000000] (K':=[(0,.own 1000000 0),(1,vi v1),(5,.own 5 0),(6,.own 6 0),(7,.fn 72 [.own 6 0,.own 5 0])]) (L':=[(5,56,[.row 126]),(6,75,[.row 4360]),(126,91,[rc16 (List.set (r6.2 ++ ([zx2]:List (S_tmpl_Part))) (Int.toNat (List.length r6.2:Int)) r7.1)]),(4360,5,[rc4 r6.1]),(1000000,88,qc17 r7.2)]) (ob:=[CbOb (CallsB Tryz.prog) 74 [.own 1000000 0,vi v1] [some (ex29 b1000000)] ⟨[(1000000,1000000)],[(1000000,1000000)],[.own 1000000 0,vi v1],[(ex22 b1000000)],.agg (qc7 r7.1),[(1000000,88,qc17 r7.2)]⟩,(MkOb 4 [.str [],.str [],vi 0,.val (.slice none 0 0)] 1 (rs3 ([zx2])) ∧ GoodR (rs3 ([zx2]))),(decide ((List.length r6.2 + List.length ([zx2]:List (S_tmpl_Part))) * (64 + 1) ≤ limit)) = true,(AppOb zx2 E_tmpl_Part r6.2 (List.flatMap E_tmpl_Part ([zx2]:List (S_tmpl_Part))) (List.length ([zx2]:List (S_tmpl_Part))) (rs3 (r6.2 ++ ([zx2]:List (S_tmpl_Part)))) ∧ GoodR (rs3 (r6.2 ++ ([zx2]:List (S_tmpl_Part))))),(decide (0 ≤ (List.length r6.2:Int) ∧ (List.length r6.2:Int) < (List.length (r6.2 ++ ([zx2]:List (S_tmpl_Part))):Int))) = true,(decide (0 ≤ (List.length r6.2:Int) ∧ (List.length r6.2:Int) < (List.length (r6.2 ++ ([zx2]:List (S_tmpl_Part))):Int))) = true,UpdOb zx2 E_tmpl_Part (r6.2 ++ ([zx2]:List (S_tmpl_Part))) (List.length r6.2:Int) 0 (qc7 r7.1) (rs3 (List.set (r6.2 ++ ([zx2]:List (S_tmpl_Part))) (Int.toNat (List.length r6.2:Int)) r7.1))]) (by kernel_rfl) (by kernel_rfl) (AllP.cons (⟨(ok_tmpl_reader_reference__o0 (tmpl_reader_parts__o0 n) (ok_tmpl_reader_parts__o0 n) n v1 (ex24 b1000000) _ hr7),by kernel_rfl,by kernel_rfl⟩) (AllP.cons (mkObW (weaks_eq (ds:=[.str [],.str [],vi 0,.val (.slice none 0 0)]) (es:=[.str [],.str [],vi 0,tn5 []]) (by kernel_rfl) (.cons (.refl _) (.cons (.refl _) (.cons (.refl _) (.cons (.zeroT _ _ _) .nil)))) (by kernel_rfl)) rfl (by kernel_rfl) (good_E_tmpl_Part _)) (AllP.cons hc8 (AllP.cons (appOb rfl rfl (good_E_tmpl_Part _)) (AllP.cons hc9 (AllP.cons hc9 (AllP.cons (updOb (by kernel_rfl)) AllP.nil))))))) ?_
   refine To.blockN (nt [0,1,5,6,7] [5,6,126,4360,1000000] [(126,4300)] [0,1,5,6,7] [5,6,4300,4360,1000000] [(0,.own 1000000 0),(1,vi v1),(5,.own 5 0),(6,.own 6 0),(7,.fn 72 [.own 6 0,.own 5 0])] [(5,56,[.row 4300]),(6,75,[.row 4360]),(4300,91,[rc16 (List.set (r6.2 ++ ([zx2]:List (S_tmpl_Part))) (Int.toNat (List.length r6.2:Int)) r7.1)]),(4360,5,[rc4 r6.1]),(1000000,88,qc17 r7.2)] ?_)
   cases h
   exact hQ
  ·refine Wp.seq ?_
   obtain ⟨r10,hr10,h⟩:=bind_of h
   refine rb [] 1 ⟨[(1000000,6),(1000001,5),(1010000,4360),(1010100,4300)],[(200,4360),(300,4300),(1000000,6),(1000001,5)],[.own 1000000 0,.own 1000001 0],[(1000000,75,[.row 1010000]),(1000001,56,[.row 1010100]),(1010000,5,[rc4 b6]),(1010100,91,[rc16 b5])],.tup [],[(200,5,[rc4 r10.1]),(300,91,[rc16 r10.2]),(1000000,75,[.row 200]),(1000001,56,[.row 300])]⟩ [0,1,5,6,7] [5,6,4300,4360,1000000] [(0,.own 1000000 0),(1,vi v1),(5,.own 5 0),(6,.own 6 0),(7,.fn 72 [.own 6 0,.own 5 0])] [(5,56,[.row 4300]),(6,75,[.row 4360]),(4300,91,[rc16 r10.2]),(4360,5,[rc4 r10.1]),(1000000,88,qc17 b1000000)] ((ok_tmpl_reader_parts_1__o0__o1 n b6 b5 _ hr10)) (To.thenN ?_)
   obtain ⟨r11,hr11,h⟩:=bind_of h
   obtain ⟨hc12,h⟩:=chk_of h
   obtain ⟨hc13,h⟩:=chk_of h
   refine Wp.regionO hm hΓ [] [(5,rs3 ([zx2])),(6,rs3 (r10.2 ++ ([zx2]:List (S_tmpl_Part)))),(8,rs3 (List.set (r10.2 ++ ([zx2]:List (S_tmpl_Part))) (Int.toNat (List.length r10.2:Int)) r11.1))] [(3,⟨[(1000000,1000000)],[(1000000,1000000)],[.own 1000000 0,vi v1],[(1000000,88,qc17 b1000000)],.agg (qc7 r11.1),[(1000000,88,qc17 r11.2)]⟩)] [0,1,5,6,7,70,71,72,73,74,75,76,77] [5,6,75,76,4300,4360,1000000] [0,1,5,6,7] [5,6,76,4360,1000000] (K':=[(0,.own 1000000 0),(1,vi v1),(5,.own 5 0),(6,.own 6 0),(7,.fn 72 [.own 6 0,.own 5 0])]) (L':=[(5,56,[.row 76]),(6,75,[.row 4360]),(76,91,[rc16 (List.set (r10.2 ++ ([zx2]:List (S_tmpl_Part))) (Int.toNat (List.length r10.2:Int)) r11.1)]),(4360,5,[rc4 r10.1]),(1000000,88,qc17 r11.2)]) (ob:=[CbOb (CallsB Tryz.prog) 75 [.own 1000000 0,vi v1] [some (88,qc17 b1000000)] ⟨[(1000000,1000000)],[(1000000,1000000)],[.own 1000000 0,vi v1],[(1000000,88,qc17 b1000000)],.agg (qc7 r11.1),[(1000000,88,qc17 r11.2)]⟩,(MkOb 4 [.str [],.str [],vi 0,.val (.slice none 0 0)] 1 (rs3 ([zx2])) ∧ GoodR (rs3 ([zx2]))),(decide ((List.length r10.2 + List.length ([zx2]:List (S_tmpl_Part))) * (64 + 1) ≤ limit)) = true,(AppOb zx2 E_tmpl_Part r10.2 (List.flatMap E_tmpl_Part ([zx2]:List (S_tmpl_Part))) (List.length ([zx2]:List (S_tmpl_Part))) (rs3 (r10.2 ++ ([zx2]:List (S_tmpl_Part)))) ∧ GoodR (rs3 (r10.2 ++ ([zx2]:List (S_tmpl_Part))))),(decide (0 ≤ (List.length r10.2:Int) ∧ (List.length r10.2:Int) < (List.length (r10.2 ++ ([zx2]:List (S_tmpl_Part))):Int))) = true,(decide (0 ≤ (List.length r10.2:Int) ∧ (List.length r10.2:Int) < (List.length (r10.2 ++ ([zx2]:List (S_tmpl_Part))):Int))) = true,UpdOb zx2 E_tmpl_Part (r10.2 ++ ([zx2]:List (S_tmpl_Part))) (List.length r10.2:Int) 0 (qc7 r11.1) (rs3 (List.set (r10.2 ++ ([zx2]:List (S_tmpl_Part))) (Int.toNat (List.length r10.2:Int)) r11.1))]) (by kernel_rfl) (by kernel_rfl) (AllP.cons (⟨(ok_tmpl_reader_plain__o0 n v1 b1000000 _ hr11),by kernel_rfl,by kernel_rfl⟩) (AllP.cons (mkObW (weaks_eq (ds:=[.str [],.str [],vi 0,.val (.slice none 0 0)]) (es:=[.str [],.str [],vi 0,tn5 []]) (by kernel_rfl) (.cons (.refl _) (.cons (.refl _) (.cons (.refl _) (.cons (.zeroT _ _ _) .nil)))) (by kernel_rfl)) rfl (by kernel_rfl) (good_E_tmpl_Part _)) (AllP.cons hc12 (AllP.cons (appOb rfl rfl (good_E_tmpl_Part _)) (AllP.cons hc13 (AllP.cons hc13 (AllP.cons (updOb (by kernel_rfl)) AllP.nil))))))) ?_
   refine To.blockN (nt [0,1,5,6,7] [5,6,76,4360,1000000] [(76,4300)] [0,1,5,6,7] [5,6,4300,4360,1000000] [(0,.own 1000000 0),(1,vi v1),(5,.own 5 0),(6,.own 6 0),(7,.fn 72 [.own 6 0,.own 5 0])] [(5,56,[.row 4300]),(6,75,[.row 4360]),(4300,91,[rc16 (List.set (r10.2 ++ ([zx2]:List (S_tmpl_Part))) (Int.toNat (List.length r10.2:Int)) r11.1)]),(4360,5,[rc4 r10.1]),(1000000,88,qc17 r11.2)] ?_)
   cases h
   exact hQ
def tmpl_reader_parts_o__o0_j3 (n:Nat) (v1:Int) (v8:Int) (b5:List (S_tmpl_Part)) (b6:List (UInt8)) (b1000000:S_tmpl_reader):Option ((List (S_tmpl_Part)) × (List (UInt8)) × S_tmpl_reader) :=
 if (decide (0 ≤ b1000000.f_at ∧ b1000000.f_at ≤ (List.length b1000000.f_s:Int))) = true then (if (Lib.hasPrefix (List.drop (Int.toNat b1000000.f_at) b1000000.f_s) ([36]:List UInt8)) = true then (if (decide (0 ≤ v8 ∧ v8 < 256)) = true then (if (decide ((List.length b6 + List.length ([(UInt8.ofNat (Int.toNat v8))]:List (UInt8))) * (1 + 1) ≤ limit)) = true then (some (b5,(b6 ++ ([(UInt8.ofNat (Int.toNat v8))]:List (UInt8))),(S_tmpl_reader.mk b1000000.f_s (IntKind.wrap .i64 (b1000000.f_at + 1)) b1000000.f_e))) else none) else none)
 else (if (decide (0 ≤ b1000000.f_at ∧ b1000000.f_at ≤ (List.length b1000000.f_s:Int))) = true then (if (Lib.hasPrefix (List.drop (Int.toNat b1000000.f_at) b1000000.f_s) ([123]:List UInt8)) = true then ((tmpl_reader_parts_1__o0__o1 n b6 b5).bind fun r6 =>
 (tmpl_reader_reference__o0 (tmpl_reader_parts__o0 n) n v1 (S_tmpl_reader.mk b1000000.f_s (IntKind.wrap .i64 (b1000000.f_at + 1)) b1000000.f_e)).bind fun r7 =>
 if (decide ((List.length r6.2 + List.length ([(S_tmpl_Part.mk [] [] 0 [])]:List (S_tmpl_Part))) * (64 + 1) ≤ limit)) = true then (if (decide (0 ≤ (List.length r6.2:Int) ∧ (List.length r6.2:Int) < (List.length (r6.2 ++ ([(S_tmpl_Part.mk [] [] 0 [])]:List (S_tmpl_Part))):Int))) = true then (some ((List.set (r6.2 ++ ([(S_tmpl_Part.mk [] [] 0 [])]:List (S_tmpl_Part))) (Int.toNat (List.length r6.2:Int)) r7.1),r6.1,r7.2)) else none) else none)
 else ((tmpl_reader_parts_1__o0__o1 n b6 b5).bind fun r10 =>
 (tmpl_reader_plain__o0 n v1 b1000000).bind fun r11 =>
 if (decide ((List.length r10.2 + List.length ([(S_tmpl_Part.mk [] [] 0 [])]:List (S_tmpl_Part))) * (64 + 1) ≤ limit)) = true then (if (decide (0 ≤ (List.length r10.2:Int) ∧ (List.length r10.2:Int) < (List.length (r10.2 ++ ([(S_tmpl_Part.mk [] [] 0 [])]:List (S_tmpl_Part))):Int))) = true then (some ((List.set (r10.2 ++ ([(S_tmpl_Part.mk [] [] 0 [])]:List (S_tmpl_Part))) (Int.toNat (List.length r10.2:Int)) r11.1),r10.1,r11.2)) else none) else none)) else none)) else none
theorem ok_tmpl_reader_parts_o__o0_j3 (n:Nat) (v1:Int) (v8:Int) (b5:List (S_tmpl_Part)) (b6:List (UInt8)) (b1000000:S_tmpl_reader) (o:(List (S_tmpl_Part)) × (List (UInt8)) × S_tmpl_reader) (h:tmpl_reader_parts_o__o0_j3 n v1 v8 b5 b6 b1000000 = some o) {F0:Fz} {w0:Pt Tryz.prog} {Q:Exit → Act → World → Prop} (hQ:To 128 F0 w0 [(0,.own 1000000 0),(1,vi v1),(5,.own 5 0),(6,.own 6 0),(7,.fn 72 [.own 6 0,.own 5 0])] [(5,56,[.row 4300]),(6,75,[.row 4360]),(4300,91,[rc16 o.1]),(4360,5,[rc4 o.2.1]),(1000000,88,qc17 o.2.2)] .normal Q):Wp Tryz.prog 128 F0 w0 [(0,.own 1000000 0),(1,vi v1),(5,.own 5 0),(6,.own 6 0),(7,.fn 72 [.own 6 0,.own 5 0]),(8,.val (.int .u8 v8))] [(5,56,[.row 4300]),(6,75,[.row 4360]),(4300,91,[rc16 b5]),(4360,5,[rc4 b6]),(1000000,88,qc17 b1000000)] (cA (cB (cB (cB (cB (cB (cB (cB (cB (cI (cB (cF Tryz.f50)))))))))))) Q:=by
 unfold tmpl_reader_parts_o__o0_j3 at h
 refine Wp.block (Wp.seq ?_)
 obtain ⟨hc15,h⟩:=chk_of h
 refine Wp.regionD hm hΓ [(9,vb (ex57 b1000000))] [0,1,5,6,7,8,78] [5,6,4300,4360,1000000] (K':=[(0,.own 1000000 0),(1,vi v1),(5,.own 5 0),(6,.own 6 0),(7,.fn 72 [.own 6 0,.own 5 0]),(8,.val (.int .u8 v8)),(78,vb (ex57 b1000000))]) (L':=[(5,56,[.row 4300]),(6,75,[.row 4360]),(4300,91,[rc16 b5]),(4360,5,[rc4 b6]),(1000000,88,qc17 b1000000)]) (ob:=[(ex59 b1000000) = true,(true = true → CX Tryz.prog 73 [.str (ex26 b1000000),.str [36]] (vb (ex57 b1000000)))]) (by kernel_rfl) (AllP.cons hc15 (AllP.cons (fun _=>cx (Sh.hasPrefix73)) AllP.nil)) (To.thenN (cn h (fun h=>?_) (fun h=>?_)))
 ·refine Wp.seq ?_
  obtain ⟨u4,h⟩:=chk_of h
  obtain ⟨hc5,h⟩:=chk_of h
  refine rr [] [(ex30 v8),(3,rs19 (b6 ++ (ex27 v8)))] [] [0,1,5,6,7] [5,6,92,4300,1000000] [(0,.own 1000000 0),(1,vi v1),(5,.own 5 0),(6,.own 6 0),(7,.fn 72 [.own 6 0,.own 5 0])] [(5,56,[.row 4300]),(6,75,[.row 92]),(ex60 b6 v8),(4300,91,[rc16 b5]),(1000000,88,qc17 b1000000)] [(ex28 v8),_,(ex58 b6 v8)] (AllP.cons (mkOb (All8.cells (ns:=[v8]) (.cons (u8_of u4) .nil)) rfl rfl (good8 _)) (AllP.cons hc5 (AllP.cons (appOb rfl rfl (good8 _)) AllP.nil))) (To.thenN (rg [0,1,5,6,7] [5,6,92,4300,1000000] [(0,.own 1000000 0),(1,vi v1),(5,.own 5 0),(6,.own 6 0),(7,.fn 72 [.own 6 0,.own 5 0])] [(5,56,[.row 4300]),(6,75,[.row 92]),(ex60 b6 v8),(4300,91,[rc16 b5]),(ex22 b1000000)] (To.blockN (nt [0,1,5,6,7] [5,6,92,4300,1000000] [(92,4360)] [0,1,5,6,7] [5,6,4300,4360,1000000] [(0,.own 1000000 0),(1,vi v1),(5,.own 5 0),(6,.own 6 0),(7,.fn 72 [.own 6 0,.own 5 0])] [(5,56,[.row 4300]),(6,75,[.row 4360]),(4300,91,[rc16 b5]),(ex62 b6 v8),(ex22 b1000000)] ?_))))
  cases h
  exact hQ
 ·refine Wp.seq ?_
  obtain ⟨hc14,h⟩:=chk_of h
  refine Wp.regionD hm hΓ [(9,vb (ex56 b1000000))] [0,1,5,6,7,100] [5,6,4300,4360,1000000] (K':=[(0,.own 1000000 0),(1,vi v1),(5,.own 5 0),(6,.own 6 0),(7,.fn 72 [.own 6 0,.own 5 0]),(100,vb (ex56 b1000000))]) (L':=[(5,56,[.row 4300]),(6,75,[.row 4360]),(4300,91,[rc16 b5]),(4360,5,[rc4 b6]),(1000000,88,qc17 b1000000)]) (ob:=[(ex59 b1000000) = true,(true = true → CX Tryz.prog 73 [.str (ex26 b1000000),.str [123]] (vb (ex56 b1000000)))]) (by kernel_rfl) (AllP.cons hc14 (AllP.cons (fun _=>cx (Sh.hasPrefix73)) AllP.nil)) (To.thenN (cn h (fun h=>?_) (fun h=>?_)))
  ·refine Wp.seq (rg [0,1,5,6,7] [5,6,4300,4360,1000000] [(0,.own 1000000 0),(1,vi v1),(5,.own 5 0),(6,.own 6 0),(7,.fn 72 [.own 6 0,.own 5 0])] [(5,56,[.row 4300]),(6,75,[.row 4360]),(4300,91,[rc16 b5]),(4360,5,[rc4 b6]),(ex22 b1000000)] (To.thenN (Wp.seq ?_)))
   obtain ⟨r6,hr6,h⟩:=bind_of h
   refine rb [] 1 ⟨[(1000000,6),(1000001,5),(1010000,4360),(1010100,4300)],[(200,4360),(300,4300),(1000000,6),(1000001,5)],[.own 1000000 0,.own 1000001 0],[(1000000,75,[.row 1010000]),(1000001,56,[.row 1010100]),(1010000,5,[rc4 b6]),(1010100,91,[rc16 b5])],.tup [],[(200,5,[rc4 r6.1]),(300,91,[rc16 r6.2]),(1000000,75,[.row 200]),(1000001,56,[.row 300])]⟩ [0,1,5,6,7] [5,6,4300,4360,1000000] [(0,.own 1000000 0),(1,vi v1),(5,.own 5 0),(6,.own 6 0),(7,.fn 72 [.own 6 0,.own 5 0])] [(5,56,[.row 4300]),(6,75,[.row 4360]),(4300,91,[rc16 r6.2]),(4360,5,[rc4 r6.1]),(ex22 b1000000)] ((ok_tmpl_reader_parts_1__o0__o1 n b6 b5 _ hr6)) (To.thenN ?_)
   obtain ⟨r7,hr7,h⟩:=bind_of h
   obtain ⟨hc8,h⟩:=chk_of h
   obtain ⟨hc9,h⟩:=chk_of h
   refine Wp.regionO hm hΓ [] [(5,rs3 ([zx2])),(6,rs3 (r6.2 ++ ([zx2]:List (S_tmpl_Part)))),(8,rs3 (List.set (r6.2 ++ ([zx2]:List (S_tmpl_Part))) (Int.toNat (List.length r6.2:Int)) r7.1))] [(3,⟨[(1000000,1000000)],[(1000000,1000000)],[.own 1000000 0,vi v1],[(ex22 b1000000)],.agg (qc7 r7.1),[(1000000,88,qc17 r7.2)]⟩)] [0,1,5,6,7,120,121,122,123,124,125,126,127] [5,6,125,126,4300,4360,1000000] [0,1,5,6,7] [5,6,126,4360,1000000] (K':=[(0,.own 1000000 0),(1,vi v1),(5,.own 5 0),(6,.own 6 0),(7,.fn 72 [.own 6 0,.own 5 0])]) (L':=[(5,56,[.row 126]),(6,75,[.row 4360]),(126,91,[rc16 (List.set (r6.2 ++ ([zx2]:List (S_tmpl_Part))) (Int.toNat (List.length r6.2:Int)) r7.1)]),(4360,5,[rc4 r6.1]),(1000000,88,qc17 r7.2)]) (ob:=[CbOb (CallsB Tryz.prog) 74 [.own 1000000 0,vi v1] [some (ex29 b1000000)] ⟨[(1000000,1000000)],[(1000000,1000000)],[.own 1000000 0,vi v1],[(ex22 b1000000)],.agg (qc7 r7.1),[(1000000,88,qc17 r7.2)]⟩,(MkOb 4 [.str [],.str [],vi 0,.val (.slice none 0 0)] 1 (rs3 ([zx2])) ∧ GoodR (rs3 ([zx2]))),(decide ((List.length r6.2 + List.length ([zx2]:List (S_tmpl_Part))) * (64 + 1) ≤ limit)) = true,(AppOb zx2 E_tmpl_Part r6.2 (List.flatMap E_tmpl_Part ([zx2]:List (S_tmpl_Part))) (List.length ([zx2]:List (S_tmpl_Part))) (rs3 (r6.2 ++ ([zx2]:List (S_tmpl_Part)))) ∧ GoodR (rs3 (r6.2 ++ ([zx2]:List (S_tmpl_Part))))),(decide (0 ≤ (List.length r6.2:Int) ∧ (List.length r6.2:Int) < (List.length (r6.2 ++ ([zx2]:List (S_tmpl_Part))):Int))) = true,(decide (0 ≤ (List.length r6.2:Int) ∧ (List.length r6.2:Int) < (List.length (r6.2 ++ ([zx2]:List (S_tmpl_Part))):Int))) = true,UpdOb zx2 E_tmpl_Part (r6.2 ++ ([zx2]:List (S_tmpl_Part))) (List.length r6.2:Int) 0 (qc7 r7.1) (rs3 (List.set (r6.2 ++ ([zx2]:List (S_tmpl_Part))) (Int.toNat (List.length r6.2:Int)) r7.1))]) (by kernel_rfl) (by kernel_rfl) (AllP.cons (⟨(ok_tmpl_reader_reference__o0 (tmpl_reader_parts__o0 n) (ok_tmpl_reader_parts__o0 n) n v1 (ex24 b1000000) _ hr7),by kernel_rfl,by kernel_rfl⟩) (AllP.cons (mkObW (weaks_eq (ds:=[.str [],.str [],vi 0,.val (.slice none 0 0)]) (es:=[.str [],.str [],vi 0,tn5 []]) (by kernel_rfl) (.cons (.refl _) (.cons (.refl _) (.cons (.refl _) (.cons (.zeroT _ _ _) .nil)))) (by kernel_rfl)) rfl (by kernel_rfl) (good_E_tmpl_Part _)) (AllP.cons hc8 (AllP.cons (appOb rfl rfl (good_E_tmpl_Part _)) (AllP.cons hc9 (AllP.cons hc9 (AllP.cons (updOb (by kernel_rfl)) AllP.nil))))))) ?_
   refine To.blockN (nt [0,1,5,6,7] [5,6,126,4360,1000000] [(126,4300)] [0,1,5,6,7] [5,6,4300,4360,1000000] [(0,.own 1000000 0),(1,vi v1),(5,.own 5 0),(6,.own 6 0),(7,.fn 72 [.own 6 0,.own 5 0])] [(5,56,[.row 4300]),(6,75,[.row 4360]),(4300,91,[rc16 (List.set (r6.2 ++ ([zx2]:List (S_tmpl_Part))) (Int.toNat (List.length r6.2:Int)) r7.1)]),(4360,5,[rc4 r6.1]),(1000000,88,qc17 r7.2)] ?_)
   cases h
   exact hQ
  ·refine Wp.seq ?_
   obtain ⟨r10,hr10,h⟩:=bind_of h
   refine rb [] 1 ⟨[(1000000,6),(1000001,5),(1010000,4360),(1010100,4300)],[(200,4360),(300,4300),(1000000,6),(1000001,5)],[.own 1000000 0,.own 1000001 0],[(1000000,75,[.row 1010000]),(1000001,56,[.row 1010100]),(1010000,5,[rc4 b6]),(1010100,91,[rc16 b5])],.tup [],[(200,5,[rc4 r10.1]),(300,91,[rc16 r10.2]),(1000000,75,[.row 200]),(1000001,56,[.row 300])]⟩ [0,1,5,6,7] [5,6,4300,4360,1000000] [(0,.own 1000000 0),(1,vi v1),(5,.own 5 0),(6,.own 6 0),(7,.fn 72 [.own 6 0,.own 5 0])] [(5,56,[.row 4300]),(6,75,[.row 4360]),(4300,91,[rc16 r10.2]),(4360,5,[rc4 r10.1]),(1000000,88,qc17 b1000000)] ((ok_tmpl_reader_parts_1__o0__o1 n b6 b5 _ hr10)) (To.thenN ?_)
   obtain ⟨r11,hr11,h⟩:=bind_of h
   obtain ⟨hc12,h⟩:=chk_of h
   obtain ⟨hc13,h⟩:=chk_of h
   refine Wp.regionO hm hΓ [] [(5,rs3 ([zx2])),(6,rs3 (r10.2 ++ ([zx2]:List (S_tmpl_Part)))),(8,rs3 (List.set (r10.2 ++ ([zx2]:List (S_tmpl_Part))) (Int.toNat (List.length r10.2:Int)) r11.1))] [(3,⟨[(1000000,1000000)],[(1000000,1000000)],[.own 1000000 0,vi v1],[(1000000,88,qc17 b1000000)],.agg (qc7 r11.1),[(1000000,88,qc17 r11.2)]⟩)] [0,1,5,6,7,70,71,72,73,74,75,76,77] [5,6,75,76,4300,4360,1000000] [0,1,5,6,7] [5,6,76,4360,1000000] (K':=[(0,.own 1000000 0),(1,vi v1),(5,.own 5 0),(6,.own 6 0),(7,.fn 72 [.own 6 0,.own 5 0])]) (L':=[(5,56,[.row 76]),(6,75,[.row 4360]),(76,91,[rc16 (List.set (r10.2 ++ ([zx2]:List (S_tmpl_Part))) (Int.toNat (List.length r10.2:Int)) r11.1)]),(4360,5,[rc4 r10.1]),(1000000,88,qc17 r11.2)]) (ob:=[CbOb (CallsB Tryz.prog) 75 [.own 1000000 0,vi v1] [some (88,qc17 b1000000)] ⟨[(1000000,1000000)],[(1000000,1000000)],[.own 1000000 0,vi v1],[(1000000,88,qc17 b1000000)],.agg (qc7 r11.1),[(1000000,88,qc17 r11.2)]⟩,(MkOb 4 [.str [],.str [],vi 0,.val (.slice none 0 0)] 1 (rs3 ([zx2])) ∧ GoodR (rs3 ([zx2]))),(decide ((List.length r10.2 + List.length ([zx2]:List (S_tmpl_Part))) * (64 + 1) ≤ limit)) = true,(AppOb zx2 E_tmpl_Part r10.2 (List.flatMap E_tmpl_Part ([zx2]:List (S_tmpl_Part))) (List.length ([zx2]:List (S_tmpl_Part))) (rs3 (r10.2 ++ ([zx2]:List (S_tmpl_Part)))) ∧ GoodR (rs3 (r10.2 ++ ([zx2]:List (S_tmpl_Part))))),(decide (0 ≤ (List.length r10.2:Int) ∧ (List.length r10.2:Int) < (List.length (r10.2 ++ ([zx2]:List (S_tmpl_Part))):Int))) = true,(decide (0 ≤ (List.length r10.2:Int) ∧ (List.length r10.2:Int) < (List.length (r10.2 ++ ([zx2]:List (S_tmpl_Part))):Int))) = true,UpdOb zx2 E_tmpl_Part (r10.2 ++ ([zx2]:List (S_tmpl_Part))) (List.length r10.2:Int) 0 (qc7 r11.1) (rs3 (List.set (r10.2 ++ ([zx2]:List (S_tmpl_Part))) (Int.toNat (List.length r10.2:Int)) r11.1))]) (by kernel_rfl) (by kernel_rfl) (AllP.cons (⟨(ok_tmpl_reader_plain__o0 n v1 b1000000 _ hr11),by kernel_rfl,by kernel_rfl⟩) (AllP.cons (mkObW (weaks_eq (ds:=[.str [],.str [],vi 0,.val (.slice none 0 0)]) (es:=[.str [],.str [],vi 0,tn5 []]) (by kernel_rfl) (.cons (.refl _) (.cons (.refl _) (.cons (.refl _) (.cons (.zeroT _ _ _) .nil)))) (by kernel_rfl)) rfl (by kernel_rfl) (good_E_tmpl_Part _)) (AllP.cons hc12 (AllP.cons (appOb rfl rfl (good_E_tmpl_Part _)) (AllP.cons hc13 (AllP.cons hc13 (AllP.cons (updOb (by kernel_rfl)) AllP.nil))))))) ?_
   refine To.blockN (nt [0,1,5,6,7] [5,6,76,4360,1000000] [(76,4300)] [0,1,5,6,7] [5,6,4300,4360,1000000] [(0,.own 1000000 0),(1,vi v1),(5,.own 5 0),(6,.own 6 0),(7,.fn 72 [.own 6 0,.own 5 0])] [(5,56,[.row 4300]),(6,75,[.row 4360]),(4300,91,[rc16 (List.set (r10.2 ++ ([zx2]:List (S_tmpl_Part))) (Int.toNat (List.length r10.2:Int)) r11.1)]),(4360,5,[rc4 r10.1]),(1000000,88,qc17 r11.2)] ?_)
   cases h
   exact hQ
mutual
def tmpl_reader_parts_o__o0_g1_e (n:Nat):Nat → Int → S_tmpl_reader → Option ((List (S_tmpl_Part)) × S_tmpl_reader)
 | 0,_,_=>none
 | k + 1,v1,b1000000=>if ((!(((decide (v1 > 1)) == true) && ((bif (b1000000.f_e != 0) then true else (b1000000.f_at == (List.length b1000000.f_s:Int))) == false)) || decide (0 ≤ b1000000.f_at ∧ b1000000.f_at < (List.length b1000000.f_s:Int)))) = true then (lett ((bif (bif (b1000000.f_e != 0) then true else (b1000000.f_at == (List.length b1000000.f_s:Int))) then true else (bif (decide (v1 > 1)) then ((((b1000000.f_s)[Int.toNat b1000000.f_at]?.getD 0).toNat:Int) == 125) else false)):Bool) fun x1 =>
 if x1 = true then ((tmpl_reader_parts_1__o0__o1 n [] []).bind fun r2 =>
 some (r2.2,b1000000))
 else (if (decide (0 ≤ b1000000.f_at ∧ b1000000.f_at < (List.length b1000000.f_s:Int))) = true then (if ((((b1000000.f_s)[Int.toNat b1000000.f_at]?.getD 0).toNat:Int) != 36) = true then (if (decide ((List.length ([]:List (UInt8)) + List.length ([((b1000000.f_s)[Int.toNat b1000000.f_at]?.getD 0)]:List (UInt8))) * (1 + 1) ≤ limit)) = true then (tmpl_reader_parts_o__o0_g1_0 n k v1 [] (([]:List (UInt8)) ++ ([((b1000000.f_s)[Int.toNat b1000000.f_at]?.getD 0)]:List (UInt8))) (S_tmpl_reader.mk b1000000.f_s (IntKind.wrap .i64 (b1000000.f_at + 1)) b1000000.f_e)) else none)
 else ((tmpl_reader_parts_o__o0_j2 n v1 (((b1000000.f_s)[Int.toNat b1000000.f_at]?.getD 0).toNat:Int) [] [] (S_tmpl_reader.mk b1000000.f_s (IntKind.wrap .i64 (b1000000.f_at + 1)) b1000000.f_e)).bind fun o4 =>
 tmpl_reader_parts_o__o0_g1_0 n k v1 o4.1 o4.2.1 o4.2.2)) else none)) else none
def tmpl_reader_parts_o__o0_g1_0 (n:Nat):Nat → Int → (List (S_tmpl_Part)) → (List (UInt8)) → S_tmpl_reader → Option ((List (S_tmpl_Part)) × S_tmpl_reader)
 | 0,_,_,_,_=>none
 | k + 1,v1,b5,b6,b1000000=>if ((!(((decide (v1 > 1)) == true) && ((bif (b1000000.f_e != 0) then true else (b1000000.f_at == (List.length b1000000.f_s:Int))) == false)) || decide (0 ≤ b1000000.f_at ∧ b1000000.f_at < (List.length b1000000.f_s:Int)))) = true then (lett ((bif (bif (b1000000.f_e != 0) then true else (b1000000.f_at == (List.length b1000000.f_s:Int))) then true else (bif (decide (v1 > 1)) then ((((b1000000.f_s)[Int.toNat b1000000.f_at]?.getD 0).toNat:Int) == 125) else false)):Bool) fun x1 =>
 if x1 = true then ((tmpl_reader_parts_1__o0__o1 n b6 b5).bind fun r2 =>
 some (r2.2,b1000000))
 else (if (decide (0 ≤ b1000000.f_at ∧ b1000000.f_at < (List.length b1000000.f_s:Int))) = true then (if ((((b1000000.f_s)[Int.toNat b1000000.f_at]?.getD 0).toNat:Int) != 36) = true then (if (decide ((List.length b6 + List.length ([((b1000000.f_s)[Int.toNat b1000000.f_at]?.getD 0)]:List (UInt8))) * (1 + 1) ≤ limit)) = true then (tmpl_reader_parts_o__o0_g1_0 n k v1 b5 (b6 ++ ([((b1000000.f_s)[Int.toNat b1000000.f_at]?.getD 0)]:List (UInt8))) (S_tmpl_reader.mk b1000000.f_s (IntKind.wrap .i64 (b1000000.f_at + 1)) b1000000.f_e)) else none)
 else ((tmpl_reader_parts_o__o0_j3 n v1 (((b1000000.f_s)[Int.toNat b1000000.f_at]?.getD 0).toNat:Int) b5 b6 (S_tmpl_reader.mk b1000000.f_s (IntKind.wrap .i64 (b1000000.f_at + 1)) b1000000.f_e)).bind fun o4 =>
 tmpl_reader_parts_o__o0_g1_0 n k v1 o4.1 o4.2.1 o4.2.2)) else none)) else none
end
end Go.Proofs.YtibgdilkodjojaaGreatDoor.M
