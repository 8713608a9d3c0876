import Derived.Test.YtibgdilkodjojaaDoorQM14c
set_option linter.all false
namespace Go.Proofs.YtibgdilkodjojaaDoor.M
open Go.RowKit Go.Proofs.YtibgdilkodjojaaDoor.RX
set_option maxRecDepth 100000
def ref13_parts_l1 (R_ref13_parts:(List UInt8) → Int → Int → Option ((List (S_ref13_Part)) × Int × Int)) (n:Nat) (v0:List UInt8) (v2:Int):Nat → Int → (List (S_ref13_Part)) → Option (Sum (Int × (List (S_ref13_Part))) ((List (S_ref13_Part)) × Int × Int))
 | 0,_,_=>none
 | k + 1,v1,v9=>if (decide (v1 < (List.length v0:Int))) = true then (if (decide (0 ≤ v1 ∧ v1 < (List.length v0:Int))) = true then (if (bif ((((v0)[Int.toNat v1]?.getD 0).toNat:Int) == 125) then (decide (v2 > 1)) else false) = true then (some (.inr (v9,v1,0)))
 else (if (decide (0 ≤ v1 ∧ v1 < (List.length v0:Int))) = true then (if ((((v0)[Int.toNat v1]?.getD 0).toNat:Int) != 36) = true then (if (decide (0 ≤ v1 ∧ v1 < (List.length v0:Int))) = true then ((ref13_words_o__r0 n (((v0)[Int.toNat v1]?.getD 0).toNat:Int) v9).bind fun r1 =>
 ref13_parts_l1 R_ref13_parts n v0 v2 k (IntKind.wrap .i64 (v1 + 1)) r1.1) else none)
 else (if ((!((decide ((IntKind.wrap .i64 (v1 + 1)) < (List.length v0:Int))) == true) || decide (0 ≤ (IntKind.wrap .i64 (v1 + 1)) ∧ (IntKind.wrap .i64 (v1 + 1)) < (List.length v0:Int)))) = true then (lett ((bif (decide ((IntKind.wrap .i64 (v1 + 1)) < (List.length v0:Int))) then ((((v0)[Int.toNat (IntKind.wrap .i64 (v1 + 1))]?.getD 0).toNat:Int) == 36) else false):Bool) fun x3 =>
 if x3 = true then ((ref13_words_o__r0 n 36 v9).bind fun r4 =>
 ref13_parts_l1 R_ref13_parts n v0 v2 k (IntKind.wrap .i64 ((IntKind.wrap .i64 (v1 + 1)) + 1)) r4.1)
 else (if ((!((decide ((IntKind.wrap .i64 (v1 + 1)) < (List.length v0:Int))) == true) || decide (0 ≤ (IntKind.wrap .i64 (v1 + 1)) ∧ (IntKind.wrap .i64 (v1 + 1)) < (List.length v0:Int)))) = true then (lett ((bif (decide ((IntKind.wrap .i64 (v1 + 1)) < (List.length v0:Int))) then ((((v0)[Int.toNat (IntKind.wrap .i64 (v1 + 1))]?.getD 0).toNat:Int) == 123) else false):Bool) fun x5 =>
 if (decide (v2 > 8)) = true then (some (.inr (([]:List (S_ref13_Part)),0,9)))
 else ((ref13_parts_j2 R_ref13_parts n v0 (IntKind.wrap .i64 (v1 + 1)) v2 v9 x5 x5).bind fun o6 =>
 (ref13_found n v0 o6).bind fun r7 =>
 if (decide (0 ≤ r7 ∧ r7 ≤ (List.length v0:Int))) = true then (if (decide (0 ≤ o6 ∧ o6 ≤ r7)) = true then ((ref02_Variable n (List.take (Int.toNat r7 - Int.toNat o6) (List.drop (Int.toNat o6) v0))).bind fun r8 =>
 if (!r8) = true then (some (.inr (([]:List (S_ref13_Part)),0,3)))
 else ((ref13_parts_j3 R_ref13_parts n v0 r7 v2 v9 x5 (S_ref13_Part.mk (List.take (Int.toNat r7 - Int.toNat o6) (List.drop (Int.toNat o6) v0)) [] 1 [])).bind fun o9 =>
 (Sum.elim (fun o9=>if (decide ((List.length v9 + List.length ([o9.2]:List (S_ref13_Part))) * (64 + 1) ≤ limit)) = true then (ref13_parts_l1 R_ref13_parts n v0 v2 k o9.1 (v9 ++ ([o9.2]:List (S_ref13_Part)))) else none) (fun o9=>some (.inr (([]:List (S_ref13_Part)),o9.1,o9.2)))) o9)) else none) else none)) else none)) else none)) else none)) else none)
 else (some (.inl (v1,v9)))
abbrev ex27 (x0:Int):=(IntKind.wrap .i64 ((IntKind.wrap .i64 (x0 + 1)) + 1))
theorem ok_ref13_parts_l1 (R_ref13_parts:(List UInt8) → Int → Int → Option ((List (S_ref13_Part)) × Int × Int)) (hR_ref13_parts:hR25 R_ref13_parts) (n:Nat) (v0:List UInt8) (v2:Int) {F0:Fz} {w0:Pt Tryd.prog} {Q:Exit → Act → World → Prop} (k:Nat):∀ (v1:Int) (v9:List (S_ref13_Part)) (o:Sum (Int × (List (S_ref13_Part))) ((List (S_ref13_Part)) × Int × Int)),ref13_parts_l1 R_ref13_parts n v0 v2 k v1 v9 = some o → (Sum.elim (fun s=>To 135 F0 w0 [(1,vi s.1),(9,.row 1009)] [(1009,96,[rc21 s.2])] (.exit 0) Q) (fun s=>To 135 F0 w0 [(6,.row 1006),(7,vi s.2.1),(8,vi s.2.2)] [(1006,96,[rc21 s.1])] .ret Q)) o → WL Tryd.prog 135 F0 w0 [(0,.str v0),(1,vi v1),(2,vi v2),(9,.row 1009)] [(1009,96,[rc21 v9])] (cI (cI (cA (cB (cB (cF Tryd.f46)))))) Q:=by
 induction k with
 | zero=>intro v1 v9 o h; cases h
 | succ k ih =>
  intro v1 v9 o h hQ
  rw [ref13_parts_l1] at h
  refine WL.round (Wp.seq (Wp.seq (rg [0,1,2,9,22] [1009] [(0,.str v0),(1,vi v1),(2,vi v2),(9,.row 1009),(22,vb (ex8 v1 v0))] [(1009,96,[rc21 v9])] (To.thenN (cn h (fun h=>?_) (fun h=>?_))))))
  ·refine Wp.skip (To.thenN (Wp.block (Wp.seq (Wp.seq ?_))))
   obtain ⟨hc16,h⟩:=chk_of h
   refine r0 [0,1,2,9,30] [1009] [(0,.str v0),(1,vi v1),(2,vi v2),(9,.row 1009),(30,vb (bif ((ex7 v0 v1) == 125) then (decide (v2 > 1)) else false))] [(1009,96,[rc21 v9])] (AllP.cons hc16 AllP.nil) (To.thenN (cn h (fun h=>?_) (fun h=>?_)))
   ·refine Wp.seq (rg [6,7,8] [1009] [(6,.row 1009),(7,vi v1),(8,vi 0)] [(1009,96,[rc21 v9])] (To.thenN (Wp.ret (To.thenR (To.blockR (To.thenR (nt [6,7,8] [1009] [(1009,1006)] [6,7,8] [1006] [(6,.row 1006),(7,vi v1),(8,vi 0)] [(1006,96,[rc21 v9])] ?_)))))))
    cases h
    exact hQ
   ·refine Wp.skip (To.thenN (Wp.seq (Wp.seq ?_)))
    obtain ⟨hc15,h⟩:=chk_of h
    refine r0 [0,1,2,9,36] [1009] [(0,.str v0),(1,vi v1),(2,vi v2),(9,.row 1009),(36,vb ((ex7 v0 v1) != 36))] [(1009,96,[rc21 v9])] (AllP.cons hc15 AllP.nil) (To.thenN (cn h (fun h=>?_) (fun h=>?_)))
    ·refine Wp.seq ?_
     obtain ⟨hc2,h⟩:=chk_of h
     obtain ⟨r1,hr1,h⟩:=bind_of h
     refine rr [] [] [(4,⟨[(1000000,1009)],[(1,41)],[.row 1000000,.val (.int .u8 (ex7 v0 v1))],[(1000000,96,[rc21 v9])],.row 1,[(1,96,[rc21 r1.1])]⟩)] [0,1,2,9] [41] [(0,.str v0),(1,vi v1),(2,vi v2),(9,.row 41)] [(41,96,[rc21 r1.1])] [_,CbOb (CallsB Tryd.prog) 75 [.row 1009,.val (.int .u8 (ex7 v0 v1))] [some (96,[rc21 v9])] ⟨[(1000000,1009)],[(1,41)],[.row 1000000,.val (.int .u8 (ex7 v0 v1))],[(1000000,96,[rc21 v9])],.row 1,[(1,96,[rc21 r1.1])]⟩] (AllP.cons hc2 (AllP.cons (⟨(ok_ref13_words_o__r0 n (ex7 v0 v1) v9 _ hr1),by kernel_rfl,by kernel_rfl⟩) AllP.nil)) ?_
     refine To.thenN (Wp.seq (rg [0,1,2,9] [41] [(0,.str v0),(ex22 v1),(2,vi v2),(9,.row 41)] [(41,96,[rc21 r1.1])] (To.thenN (Wp.exit (To.thenX (To.blockX (nt [0,1,2,9] [41] [(41,1009)] [0,1,2,9] [1009] [(0,.str v0),(ex22 v1),(2,vi v2),(9,.row 1009)] [(1009,96,[rc21 r1.1])] (To.again ?_))))))))
     exact ih (IntKind.wrap .i64 (v1 + 1)) r1.1 _ h hQ
    ·refine Wp.skip (To.thenN (Wp.seq (rg [0,1,2,9] [1009] [(0,.str v0),(ex22 v1),(2,vi v2),(9,.row 1009)] [(1009,96,[rc21 v9])] (To.thenN (Wp.seq (Wp.seq ?_))))))
     obtain ⟨hc14,h⟩:=chk_of h
     obtain ⟨x3,hx3,h⟩:=lett_of h
     refine r0 [0,1,2,9,55] [1009] [(0,.str v0),(ex22 v1),(2,vi v2),(9,.row 1009),(55,vb (bif (ex26 v1 v0) then ((ex24 v0 v1) == 36) else false))] [(1009,96,[rc21 v9])] (AllP.cons hc14 AllP.nil) (To.eq (K':=[(0,.str v0),(ex22 v1),(2,vi v2),(9,.row 1009),(55,vb x3)]) (L':=[(1009,96,[rc21 v9])]) (by cases hx3; rfl) (by cases hx3; rfl) (To.thenN (cn h (fun h=>?_) (fun h=>?_))))
     ·refine Wp.seq ?_
      obtain ⟨r4,hr4,h⟩:=bind_of h
      refine rb [] 1 ⟨[(1000000,1009)],[(1,57)],[.row 1000000,.val (.int .u8 36)],[(1000000,96,[rc21 v9])],.row 1,[(1,96,[rc21 r4.1])]⟩ [0,1,2,9] [57] [(0,.str v0),(ex22 v1),(2,vi v2),(9,.row 57)] [(57,96,[rc21 r4.1])] ((ok_ref13_words_o__r0 n 36 v9 _ hr4)) (To.thenN (Wp.seq (rg [0,1,2,9] [57] [(0,.str v0),(1,vi (ex27 v1)),(2,vi v2),(9,.row 57)] [(57,96,[rc21 r4.1])] (To.thenN (Wp.exit (To.thenX (To.blockX (nt [0,1,2,9] [57] [(57,1009)] [0,1,2,9] [1009] [(0,.str v0),(1,vi (ex27 v1)),(2,vi v2),(9,.row 1009)] [(1009,96,[rc21 r4.1])] (To.again ?_)))))))))
      exact ih (ex27 v1) r4.1 _ h hQ
     ·refine Wp.skip (To.thenN (Wp.seq ?_))
      obtain ⟨hc13,h⟩:=chk_of h
      obtain ⟨x5,hx5,h⟩:=lett_of h
      refine r0 [0,1,2,9,10] [1009] [(0,.str v0),(ex22 v1),(2,vi v2),(9,.row 1009),(10,vb (bif (ex26 v1 v0) then ((ex24 v0 v1) == 123) else false))] [(1009,96,[rc21 v9])] (AllP.cons hc13 AllP.nil) (To.eq (K':=[(0,.str v0),(ex22 v1),(2,vi v2),(9,.row 1009),(10,vb x5)]) (L':=[(1009,96,[rc21 v9])]) (by cases hx5; rfl) (by cases hx5; rfl) (To.thenN (Wp.seq (Wp.seq (rg [0,1,2,9,10,71] [1009] [(0,.str v0),(ex22 v1),(2,vi v2),(9,.row 1009),(10,vb x5),(71,vb (decide (v2 > 8)))] [(1009,96,[rc21 v9])] (To.thenN (cn h (fun h=>?_) (fun h=>?_))))))))
      ·refine Wp.seq (rg [6,7,8] [] [(6,.val (.slice none 0 0)),(7,vi 0),(8,vi 9)] [] (To.thenN (Wp.ret (To.thenR (To.blockR (To.thenR (To.pre (St.vacant (t:=6) (k:=1006) (e:=96) (K':=[(6,.row 1006),(7,vi 0),(8,vi 9)]) (good_E_ref13_Part _) (by decide) (by kernel_rfl) (by kernel_rfl)) (kt [6,7,8] [1006] [(6,.row 1006),(7,vi 0),(8,vi 9)] [(1006,96,[rc21 []])] ?_))))))))
       cases h
       exact hQ
      ·refine Wp.skip (To.thenN (Wp.seq (Wp.seq (rg [0,1,2,9,10,72] [1009] [(0,.str v0),(ex22 v1),(2,vi v2),(9,.row 1009),(10,vb x5),(72,vb x5)] [(1009,96,[rc21 v9])] (To.thenN ?_)))))
       obtain ⟨o6,ho6,h⟩:=bind_of h
       refine kw [0,1,2,9,10,72] [1009] [(0,.str v0),(ex22 v1),(2,vi v2),(9,.row 1009),(10,vb x5),(72,vb x5)] [(1009,96,[rc21 v9])] (ok_ref13_parts_j2 R_ref13_parts hR_ref13_parts n v0 (IntKind.wrap .i64 (v1 + 1)) v2 v9 x5 x5 o6 ho6 (To.thenN (Wp.seq ?_)))
       obtain ⟨r7,hr7,h⟩:=bind_of h
       refine rc [] 2 [0,1,2,9,10,11] [1009] [(0,.str v0),(1,vi o6),(2,vi v2),(9,.row 1009),(10,vb x5),(11,vi r7)] [(1009,96,[rc21 v9])] (ok_ref13_found n v0 o6 _ hr7) (To.thenN (Wp.seq ?_))
       obtain ⟨hc11,h⟩:=chk_of h
       obtain ⟨hc12,h⟩:=chk_of h
       refine r0 [0,2,9,10,11,12] [12,1009] [(0,.str v0),(2,vi v2),(9,.row 1009),(10,vb x5),(11,vi r7),(12,.own 12 0)] [(12,96,[.str (List.take (Int.toNat r7 - Int.toNat o6) (List.drop (Int.toNat o6) v0)),.str [],vi 1,.val (.slice none 0 0)]),(1009,96,[rc21 v9])] (AllP.cons hc11 (AllP.cons hc12 AllP.nil)) (To.thenN (Wp.seq (Wp.seq ?_)))
       obtain ⟨r8,hr8,h⟩:=bind_of h
       refine rc [] 2 [0,2,9,10,11,12,86] [12,1009] [(0,.str v0),(2,vi v2),(9,.row 1009),(10,vb x5),(11,vi r7),(12,.own 12 0),(86,vb (!r8))] [(12,96,[.str (List.take (Int.toNat r7 - Int.toNat o6) (List.drop (Int.toNat o6) v0)),.str [],vi 1,.val (.slice none 0 0)]),(1009,96,[rc21 v9])] (ok_ref02_Variable n (List.take (Int.toNat r7 - Int.toNat o6) (List.drop (Int.toNat o6) v0)) _ hr8) (To.thenN (cn h (fun h=>?_) (fun h=>?_)))
       ·refine Wp.seq (rg [6,7,8] [] [(6,.val (.slice none 0 0)),(7,vi 0),(8,vi 3)] [] (To.thenN (Wp.ret (To.thenR (To.blockR (To.thenR (To.pre (St.vacant (t:=6) (k:=1006) (e:=96) (K':=[(6,.row 1006),(7,vi 0),(8,vi 3)]) (good_E_ref13_Part _) (by decide) (by kernel_rfl) (by kernel_rfl)) (kt [6,7,8] [1006] [(6,.row 1006),(7,vi 0),(8,vi 3)] [(1006,96,[rc21 []])] ?_))))))))
        cases h
        exact hQ
       ·refine Wp.skip (To.thenN (Wp.seq (rg [0,1,2,9,10,12] [12,1009] [(0,.str v0),(1,vi r7),(2,vi v2),(9,.row 1009),(10,vb x5),(12,.own 12 0)] [(12,96,[.str (List.take (Int.toNat r7 - Int.toNat o6) (List.drop (Int.toNat o6) v0)),.str [],vi 1,.val (.slice none 0 0)]),(1009,96,[rc21 v9])] (To.thenN (Wp.seq (Wp.seq (rg [0,1,2,9,12,88] [12,1009] [(0,.str v0),(1,vi r7),(2,vi v2),(9,.row 1009),(12,.own 12 0),(88,vb x5)] [(12,96,[.str (List.take (Int.toNat r7 - Int.toNat o6) (List.drop (Int.toNat o6) v0)),.str [],vi 1,.val (.slice none 0 0)]),(1009,96,[rc21 v9])] (To.thenN ?_))))))))
        obtain ⟨o9,ho9,h⟩:=bind_of h
        refine kw [0,1,2,9,12,88] [12,1009] [(0,.str v0),(1,vi r7),(2,vi v2),(9,.row 1009),(12,.own 12 0),(88,vb x5)] [(12,96,[.str (List.take (Int.toNat r7 - Int.toNat o6) (List.drop (Int.toNat o6) v0)),.str [],vi 1,.val (.slice none 0 0)]),(1009,96,[rc21 v9])] (Wp.weak (K':=[(0,.str v0),(1,vi r7),(2,vi v2),(9,.row 1009),(12,.own 12 0),(88,vb x5)]) (L':=[(12,96,[.str (List.take (Int.toNat r7 - Int.toNat o6) (List.drop (Int.toNat o6) v0)),.str [],vi 1,tn24 []]),(1009,96,[rc21 v9])]) (.cons (.refl _) (.cons (.refl _) (.cons (.refl _) (.cons (.refl _) (.cons (.refl _) (.cons (.refl _) .nil)))))) (.cons (.cons (.refl _) (.cons (.refl _) (.cons (.refl _) (.cons (.zeroT _ _ _) .nil)))) (.cons (.cons (.refl _) .nil) .nil)) (ok_ref13_parts_j3 R_ref13_parts hR_ref13_parts n v0 r7 v2 v9 x5 (S_ref13_Part.mk (List.take (Int.toNat r7 - Int.toNat o6) (List.drop (Int.toNat o6) v0)) [] 1 []) o9 ho9 ?_))
        rcases o9 with o9 | o9
        ·replace h:=sum_l h
         refine To.thenN ?_
         obtain ⟨hc10,h⟩:=chk_of h
         refine rr [] [(2,rs22 [o9.2]),(3,rs22 (v9 ++ ([o9.2]:List (S_ref13_Part))))] [] [0,1,2,9] [132] [(0,.str v0),(1,vi o9.1),(2,vi v2),(9,.row 132)] [(132,96,[rc21 (v9 ++ ([o9.2]:List (S_ref13_Part)))])] [(MkOb 4 (qc26 o9.2) 1 (rs22 [o9.2]) ∧ GoodR (rs22 [o9.2])),_,(AppOb zx20 E_ref13_Part v9 (List.flatMap E_ref13_Part ([o9.2]:List (S_ref13_Part))) (List.length ([o9.2]:List (S_ref13_Part))) (rs22 (v9 ++ ([o9.2]:List (S_ref13_Part)))) ∧ GoodR (rs22 (v9 ++ ([o9.2]:List (S_ref13_Part)))))] (AllP.cons (mkOb (by kernel_rfl) rfl (by kernel_rfl) (good_E_ref13_Part _)) (AllP.cons hc10 (AllP.cons (appOb rfl rfl (good_E_ref13_Part _)) AllP.nil))) (To.blockN (nt [0,1,2,9] [132] [(132,1009)] [0,1,2,9] [1009] [(0,.str v0),(1,vi o9.1),(2,vi v2),(9,.row 1009)] [(1009,96,[rc21 (v9 ++ ([o9.2]:List (S_ref13_Part)))])] (To.again ?_)))
         exact ih o9.1 (v9 ++ ([o9.2]:List (S_ref13_Part))) _ h hQ
        ·replace h:=sum_r h
         refine To.thenR (To.blockR (To.thenR (kt [6,7,8] [] [(6,.val (.slice none 0 0)),(7,vi o9.1),(8,vi o9.2)] [] (To.pre (St.vacant (t:=6) (k:=1006) (e:=96) (K':=[(6,.row 1006),(7,vi o9.1),(8,vi o9.2)]) (good_E_ref13_Part _) (by decide) (by kernel_rfl) (by kernel_rfl)) (kt [6,7,8] [1006] [(6,.row 1006),(7,vi o9.1),(8,vi o9.2)] [(1006,96,[rc21 []])] ?_)))))
         cases h
         exact hQ
  ·refine Wp.exit (To.thenX (To.thenX (kt [1,9] [1009] [(1,vi v1),(9,.row 1009)] [(1009,96,[rc21 v9])] ?_)))
   cases h
   exact hQ
def ref13_parts_b (R_ref13_parts:(List UInt8) → Int → Int → Option ((List (S_ref13_Part)) × Int × Int)) (n:Nat) (a0:List UInt8) (a1:Int) (a2:Int):Option ((List (S_ref13_Part)) × Int × Int) :=
 (ref13_parts_l1 R_ref13_parts n a0 a2 n a1 ([]:List (S_ref13_Part))).bind fun o1 =>
 (Sum.elim (fun o1=>some (o1.2,o1.1,0)) (fun o1=>some (o1.1,o1.2.1,o1.2.2))) o1
theorem ok_ref13_parts_b (R_ref13_parts:(List UInt8) → Int → Int → Option ((List (S_ref13_Part)) × Int × Int)) (hR_ref13_parts:hR25 R_ref13_parts) (n:Nat) (a0:List UInt8) (a1:Int) (a2:Int) (r:(List (S_ref13_Part)) × Int × Int) (h:ref13_parts_b R_ref13_parts n a0 a1 a2 = some r):CallsX Tryd.prog 46 [.str a0,vi a1,vi a2] (.tup [rs22 r.1,vi r.2.1,vi r.2.2]):=by
 unfold ref13_parts_b at h
 refine xo Tryd.f46 rfl fun F0 w0 _=>?_
 refine Wp.seq (rg [0,1,2] [] [(0,.str a0),(1,vi a1),(2,vi a2)] [] (To.thenN (Wp.seq (rr [] [(0,rs22 [])] [] [0,1,2,9] [18] [(0,.str a0),(1,vi a1),(2,vi a2),(9,.row 18)] [(18,96,[rc21 []])] [(MkOb 4 [] 0 (rs22 []) ∧ GoodR (rs22 []))] (AllP.cons (mkOb (by kernel_rfl) rfl (by kernel_rfl) (good_E_ref13_Part _)) AllP.nil) (To.thenN (Wp.seq (Wp.block ?_)))))))
 obtain ⟨o1,ho1,h⟩:=bind_of h
 refine nw [0,1,2,9] [18] [(18,1009)] [0,1,2,9] [1009] [(0,.str a0),(1,vi a1),(2,vi a2),(9,.row 1009)] [(1009,96,[rc21 []])] (Wp.loopL (ok_ref13_parts_l1 R_ref13_parts hR_ref13_parts n a0 a2 n a1 ([]:List (S_ref13_Part)) o1 ho1 ?_))
 rcases o1 with o1 | o1
 ·replace h:=sum_l h
  refine To.blockX (To.thenN (Wp.seq (rg [6,7,8] [1009] [(6,.row 1009),(7,vi o1.1),(8,vi 0)] [(1009,96,[rc21 o1.2])] (To.thenN (Wp.ret (To.pre (St.settle (ks:=[1009]) (kk:=[6,7,8]) (kl:=[1009]) (K':=[(6,.row 1009),(7,vi o1.1),(8,vi 0)]) (L':=[(1009,96,[rc23 o1.2])]) (by kernel_rfl)) (To.pre (St.sealK [6] (K':=[(6,rs22 o1.2),(7,vi o1.1),(8,vi 0)]) (by kernel_rfl)) ?_)))))))
  cases h
  exact To.done hΓ (by kernel_rfl)
 ·replace h:=sum_r h
  refine To.blockR (To.thenR (kt [6,7,8] [1006] [(6,.row 1006),(7,vi o1.2.1),(8,vi o1.2.2)] [(1006,96,[rc21 o1.1])] (To.pre (St.settle (ks:=[1006]) (kk:=[6,7,8]) (kl:=[1006]) (K':=[(6,.row 1006),(7,vi o1.2.1),(8,vi o1.2.2)]) (L':=[(1006,96,[rc23 o1.1])]) (by kernel_rfl)) (To.pre (St.sealK [6] (K':=[(6,rs22 o1.1),(7,vi o1.2.1),(8,vi o1.2.2)]) (by kernel_rfl)) ?_))))
  cases h
  exact To.done hΓ (by kernel_rfl)
def ref13_parts:Nat → (List UInt8) → Int → Int → Option ((List (S_ref13_Part)) × Int × Int)
 | 0=>fun _ _ _=>none
 | n + 1=>ref13_parts_b (ref13_parts n) n
theorem ok_ref13_parts (n:Nat):∀ (a0:List UInt8) (a1:Int) (a2:Int) (r:(List (S_ref13_Part)) × Int × Int),ref13_parts n a0 a1 a2 = some r → CallsX Tryd.prog 46 [.str a0,vi a1,vi a2] (.tup [rs22 r.1,vi r.2.1,vi r.2.2]):=by
 induction n with
 | zero=>intro a0 a1 a2 r h; cases h
 | succ n ih=>exact fun a0 a1 a2 r h=>ok_ref13_parts_b (ref13_parts n) ih n a0 a1 a2 r h
def ref13_Parse (n:Nat) (a0:List UInt8):Option ((List (S_ref13_Part)) × Int) :=
 (ref13_parts n a0 0 1).bind fun r1 =>
 if (r1.2.2 != 0) = true then (some ([],r1.2.2))
 else (some (r1.1,0))
theorem ok_ref13_Parse (n:Nat) (a0:List UInt8) (r:(List (S_ref13_Part)) × Int) (h:ref13_Parse n a0 = some r):CallsX Tryd.prog 27 [.str a0] (.tup [rs22 r.1,vi r.2]):=by
 unfold ref13_Parse at h
 refine xo Tryd.f27 rfl fun F0 w0 _=>?_
 refine Wp.seq (rg [0] [] [(0,.str a0)] [] (To.thenN (Wp.seq ?_)))
 obtain ⟨r1,hr1,h⟩:=bind_of h
 refine rc [] 1 [4,6] [] [(4,rs22 r1.1),(6,vi r1.2.2)] [] (ok_ref13_parts n a0 0 1 _ hr1) (To.thenN (Wp.seq (Wp.seq (rg [4,6,14] [] [(4,rs22 r1.1),(6,vi r1.2.2),(14,vb (r1.2.2 != 0))] [] (To.thenN (cn h (fun h=>?_) (fun h=>?_)))))))
 ·refine Wp.seq (rg [2,3] [] [(2,.val (.slice none 0 0)),(3,vi r1.2.2)] [] (To.thenN (Wp.ret (To.thenR (To.weak (K':=[(2,rs22 []),(3,vi r1.2.2)]) (L':=[]) (.cons (.zero _ _) (.cons (.refl _) .nil)) .nil ?_)))))
  cases h
  exact To.done hΓ (by kernel_rfl)
 ·refine Wp.skip (To.thenN (Wp.seq (rg [2,3] [] [(2,rs22 r1.1),(3,vi 0)] [] (To.thenN (Wp.ret ?_)))))
  cases h
  exact To.done hΓ (by kernel_rfl)
def ref13_mark (n:Nat) (a0:Int):Option ((List UInt8)) :=
 if (bif (decide (a0 < 0)) then true else (decide (a0 > 7))) = true then (some [])
 else (if (decide (0 ≤ a0 ∧ a0 < (List.length ([[],[],[58,45],[45],[58,63],[63],[58,43],[43]]:List (List UInt8)):Int))) = true then (some (([[],[],[58,45],[45],[58,63],[63],[58,43],[43]])[Int.toNat a0]?.getD [])) else none)
theorem ok_ref13_mark (n:Nat) (a0:Int) (r:(List UInt8)) (h:ref13_mark n a0 = some r):CallsX Tryd.prog 109 [vi a0] (.str r):=by
 unfold ref13_mark at h
 refine xo Tryd.f109 rfl fun F0 w0 _=>?_
 refine Wp.seq (rg [0] [] [(0,vi a0)] [] (To.thenN (Wp.seq (rr [] [(0,ls ([[],[],[58,45],[45],[58,63],[63],[58,43],[43]]))] [] [0,3] [4] [(0,vi a0),(3,.row 4)] [(4,9,[rc1 ([[],[],[58,45],[45],[58,63],[63],[58,43],[43]])])] [(MkOb 1 [.str [],.str [],.str [58,45],.str [45],.str [58,63],.str [63],.str [58,43],.str [43]] 8 (ls ([[],[],[58,45],[45],[58,63],[63],[58,43],[43]])) ∧ GoodR (ls ([[],[],[58,45],[45],[58,63],[63],[58,43],[43]])))] (AllP.cons (mkOb (by kernel_rfl) rfl (by kernel_rfl) (good_E_string _)) AllP.nil) (To.thenN (Wp.seq (Wp.seq (rg [0,3,10] [4] [(0,vi a0),(3,.row 4),(10,vb (bif (decide (a0 < 0)) then true else (decide (a0 > 7))))] [(4,9,[rc1 ([[],[],[58,45],[45],[58,63],[63],[58,43],[43]])])] (To.thenN (cn h (fun h=>?_) (fun h=>?_)))))))))))
 ·refine Wp.seq (rg [2] [] [(2,.str [])] [] (To.thenN (Wp.ret (To.thenR ?_))))
  cases h
  exact To.done hΓ (by kernel_rfl)
 ·refine Wp.skip (To.thenN (Wp.seq ?_))
  obtain ⟨hc1,h⟩:=chk_of h
  refine r0 [2] [] [(2,.str (([[],[],[58,45],[45],[58,63],[63],[58,43],[43]])[Int.toNat a0]?.getD []))] [] (AllP.cons hc1 (AllP.cons hc1 AllP.nil)) (To.thenN (Wp.ret ?_))
  cases h
  exact To.done hΓ (by kernel_rfl)
def ref13_Text_j5 (R_ref13_Text:(List (S_ref13_Part)) → Option ((List UInt8))) (n:Nat) (v0:List (S_ref13_Part)) (v3:List UInt8) (v4:Int) (v6:Int) (v31:Bool) (b5:S_ref13_Part):Option ((List UInt8)) :=
 if v31 = true then (if (decide (((List.length v3 + List.length ([36]:List UInt8):Nat):Int) ≤ 9223372036854775807)) = true then (some (v3 ++ [36])) else none)
 else some v3
abbrev hR27 (R_ref13_Text:(List (S_ref13_Part)) → Option ((List UInt8))):Prop:=∀ (a0:List (S_ref13_Part)) (r:(List UInt8)),R_ref13_Text a0 = some r → CallsX Tryd.prog 78 [rs22 a0] (.str r)
theorem ok_ref13_Text_j5 (R_ref13_Text:(List (S_ref13_Part)) → Option ((List UInt8))) (hR_ref13_Text:hR27 R_ref13_Text) (n:Nat) (v0:List (S_ref13_Part)) (v3:List UInt8) (v4:Int) (v6:Int) (v31:Bool) (b5:S_ref13_Part) (o:(List UInt8)) (h:ref13_Text_j5 R_ref13_Text n v0 v3 v4 v6 v31 b5 = some o) {F0:Fz} {w0:Pt Tryd.prog} {Q:Exit → Act → World → Prop} (hQ:To 63 F0 w0 [(0,rs22 v0),(3,.str o),(4,vi v4),(5,.own 5 0),(6,vi v6)] [(5,96,qc26 b5)] .normal Q):Wp Tryd.prog 63 F0 w0 [(0,rs22 v0),(3,.str v3),(4,vi v4),(5,.own 5 0),(6,vi v6),(31,vb v31)] [(5,96,qc26 b5)] (cB (cA (cI (cA (cB (cI (cI (cB (cT (cB (cB (cI (cA (cB (cI (cI (cB (cA (cB (cB (cF Tryd.f78))))))))))))))))))))) Q:=by
 unfold ref13_Text_j5 at h
 refine cn h (fun h=>?_) (fun h=>?_)
 ·obtain ⟨hc1,h⟩:=chk_of h
  refine r0 [0,3,4,5,6] [5] [(0,rs22 v0),(3,.str (v3 ++ [36])),(4,vi v4),(5,.own 5 0),(6,vi v6)] [(5,96,qc26 b5)] (AllP.cons hc1 AllP.nil) (kt [0,3,4,5,6] [5] [(0,rs22 v0),(3,.str (v3 ++ [36])),(4,vi v4),(5,.own 5 0),(6,vi v6)] [(5,96,qc26 b5)] ?_)
  cases h
  exact hQ
 ·refine Wp.skip (kt [0,3,4,5,6] [5] [(0,rs22 v0),(3,.str v3),(4,vi v4),(5,.own 5 0),(6,vi v6)] [(5,96,qc26 b5)] ?_)
  cases h
  exact hQ
def ref13_Text_j4 (R_ref13_Text:(List (S_ref13_Part)) → Option ((List UInt8))) (n:Nat) (v0:List (S_ref13_Part)) (v3:List UInt8) (v4:Int) (v6:Int) (b5:S_ref13_Part):Option ((List UInt8)) :=
 if (decide (0 ≤ v6 ∧ v6 < (List.length b5.f_Text:Int))) = true then ((ref13_Text_j5 R_ref13_Text n v0 v3 v4 v6 ((((b5.f_Text)[Int.toNat v6]?.getD 0).toNat:Int) == 36) b5).bind fun o1 =>
 if (decide (0 ≤ (IntKind.wrap .i64 (v6 + 1)) ∧ (IntKind.wrap .i64 (v6 + 1)) ≤ (List.length b5.f_Text:Int))) = true then (if (decide (0 ≤ v6 ∧ v6 ≤ (IntKind.wrap .i64 (v6 + 1)))) = true then (if (decide (((List.length o1 + List.length (List.take (Int.toNat (IntKind.wrap .i64 (v6 + 1)) - Int.toNat v6) (List.drop (Int.toNat v6) b5.f_Text)):Nat):Int) ≤ 9223372036854775807)) = true then (some (o1 ++ (List.take (Int.toNat (IntKind.wrap .i64 (v6 + 1)) - Int.toNat v6) (List.drop (Int.toNat v6) b5.f_Text)))) else none) else none) else none) else none
abbrev ex28 (x0:Int) (x1:S_ref13_Part):=(List.take (Int.toNat (IntKind.wrap .i64 (x0 + 1)) - Int.toNat x0) (List.drop (Int.toNat x0) x1.f_Text))
theorem ok_ref13_Text_j4 (R_ref13_Text:(List (S_ref13_Part)) → Option ((List UInt8))) (hR_ref13_Text:hR27 R_ref13_Text) (n:Nat) (v0:List (S_ref13_Part)) (v3:List UInt8) (v4:Int) (v6:Int) (b5:S_ref13_Part) (o:(List UInt8)) (h:ref13_Text_j4 R_ref13_Text n v0 v3 v4 v6 b5 = some o) {F0:Fz} {w0:Pt Tryd.prog} {Q:Exit → Act → World → Prop} (hQ:To 63 F0 w0 [(0,rs22 v0),(3,.str o),(4,vi v4),(5,.own 5 0),(6,vi v6)] [(5,96,qc26 b5)] .normal Q):Wp Tryd.prog 63 F0 w0 [(0,rs22 v0),(3,.str v3),(4,vi v4),(5,.own 5 0),(6,vi v6)] [(5,96,qc26 b5)] (cA (cB (cI (cI (cB (cT (cB (cB (cI (cA (cB (cI (cI (cB (cA (cB (cB (cF Tryd.f78)))))))))))))))))) Q:=by
 unfold ref13_Text_j4 at h
 refine Wp.block (Wp.seq (Wp.seq ?_))
 obtain ⟨hc5,h⟩:=chk_of h
 refine r0 [0,3,4,5,6,31] [5] [(0,rs22 v0),(3,.str v3),(4,vi v4),(5,.own 5 0),(6,vi v6),(31,vb ((((b5.f_Text)[Int.toNat v6]?.getD 0).toNat:Int) == 36))] [(5,96,qc26 b5)] (AllP.cons hc5 AllP.nil) (To.thenN ?_)
 obtain ⟨o1,ho1,h⟩:=bind_of h
 refine kw [0,3,4,5,6,31] [5] [(0,rs22 v0),(3,.str v3),(4,vi v4),(5,.own 5 0),(6,vi v6),(31,vb ((((b5.f_Text)[Int.toNat v6]?.getD 0).toNat:Int) == 36))] [(5,96,qc26 b5)] (ok_ref13_Text_j5 R_ref13_Text hR_ref13_Text n v0 v3 v4 v6 ((((b5.f_Text)[Int.toNat v6]?.getD 0).toNat:Int) == 36) b5 o1 ho1 (To.thenN ?_))
 obtain ⟨hc2,h⟩:=chk_of h
 obtain ⟨hc3,h⟩:=chk_of h
 obtain ⟨hc4,h⟩:=chk_of h
 refine r0 [0,3,4,5,6] [5] [(0,rs22 v0),(3,.str (o1 ++ (ex28 v6 b5))),(4,vi v4),(5,.own 5 0),(6,vi v6)] [(5,96,qc26 b5)] (AllP.cons hc2 (AllP.cons hc3 (AllP.cons hc4 AllP.nil))) (To.blockN ?_)
 cases h
 exact hQ
def ref13_Text_l3 (R_ref13_Text:(List (S_ref13_Part)) → Option ((List UInt8))) (n:Nat) (v0:List (S_ref13_Part)) (v4:Int) (b5:S_ref13_Part):Nat → (List UInt8) → Int → Option ((List UInt8))
 | 0,_,_=>none
 | k + 1,v3,v6=>if (decide (v6 < (List.length b5.f_Text:Int))) = true then ((ref13_Text_j4 R_ref13_Text n v0 v3 v4 v6 b5).bind fun o1 =>
 ref13_Text_l3 R_ref13_Text n v0 v4 b5 k o1 (IntKind.wrap .i64 (v6 + 1)))
 else some v3
theorem ok_ref13_Text_l3 (R_ref13_Text:(List (S_ref13_Part)) → Option ((List UInt8))) (hR_ref13_Text:hR27 R_ref13_Text) (n:Nat) (v0:List (S_ref13_Part)) (v4:Int) (b5:S_ref13_Part) {F0:Fz} {w0:Pt Tryd.prog} {Q:Exit → Act → World → Prop} (k:Nat):∀ (v3:List UInt8) (v6:Int) (o:(List UInt8)),ref13_Text_l3 R_ref13_Text n v0 v4 b5 k v3 v6 = some o → To 63 F0 w0 [(0,rs22 v0),(3,.str o),(4,vi v4)] [] (.exit 2) Q → WL Tryd.prog 63 F0 w0 [(0,rs22 v0),(3,.str v3),(4,vi v4),(5,.own 5 0),(6,vi v6)] [(5,96,qc26 b5)] (cI (cI (cB (cT (cB (cB (cI (cA (cB (cI (cI (cB (cA (cB (cB (cF Tryd.f78)))))))))))))))) Q:=by
 induction k with
 | zero=>intro v3 v6 o h; cases h
 | succ k ih =>
  intro v3 v6 o h hQ
  rw [ref13_Text_l3] at h
  refine WL.round (Wp.seq (Wp.seq (rg [0,3,4,5,6,24] [5] [(0,rs22 v0),(3,.str v3),(4,vi v4),(5,.own 5 0),(6,vi v6),(24,vb (decide (v6 < (List.length b5.f_Text:Int))))] [(5,96,qc26 b5)] (To.thenN (cn h (fun h=>?_) (fun h=>?_))))))
  ·refine Wp.skip (To.thenN (Wp.seq ?_))
   obtain ⟨o1,ho1,h⟩:=bind_of h
   refine kw [0,3,4,5,6] [5] [(0,rs22 v0),(3,.str v3),(4,vi v4),(5,.own 5 0),(6,vi v6)] [(5,96,qc26 b5)] (ok_ref13_Text_j4 R_ref13_Text hR_ref13_Text n v0 v3 v4 v6 b5 o1 ho1 (To.thenN (rg [0,3,4,5,6] [5] [(0,rs22 v0),(3,.str o1),(4,vi v4),(5,.own 5 0),(ex20 v6)] [(5,96,qc26 b5)] (kt [0,3,4,5,6] [5] [(0,rs22 v0),(3,.str o1),(4,vi v4),(5,.own 5 0),(ex20 v6)] [(5,96,qc26 b5)] (To.again ?_)))))
   exact ih o1 (IntKind.wrap .i64 (v6 + 1)) _ h hQ
  ·refine Wp.exit (To.thenX (To.thenX (kt [0,3,4] [] [(0,rs22 v0),(3,.str v3),(4,vi v4)] [] ?_)))
   cases h
   exact hQ
def ref13_Text_j6 (R_ref13_Text:(List (S_ref13_Part)) → Option ((List UInt8))) (n:Nat) (v0:List (S_ref13_Part)) (v3:List UInt8) (v4:Int) (v54:Bool) (b5:S_ref13_Part):Option ((List UInt8)) :=
 if v54 = true then ((R_ref13_Text b5.f_Sub).bind fun r3 =>
 if (decide (((List.length v3 + List.length r3:Nat):Int) ≤ 9223372036854775807)) = true then (some (v3 ++ r3)) else none)
 else some v3
theorem ok_ref13_Text_j6 (R_ref13_Text:(List (S_ref13_Part)) → Option ((List UInt8))) (hR_ref13_Text:hR27 R_ref13_Text) (n:Nat) (v0:List (S_ref13_Part)) (v3:List UInt8) (v4:Int) (v54:Bool) (b5:S_ref13_Part) (o:(List UInt8)) (h:ref13_Text_j6 R_ref13_Text n v0 v3 v4 v54 b5 = some o) {F0:Fz} {w0:Pt Tryd.prog} {Q:Exit → Act → World → Prop} (hQ:To 63 F0 w0 [(0,rs22 v0),(3,.str o),(4,vi v4)] [] .normal Q):Wp Tryd.prog 63 F0 w0 [(0,rs22 v0),(3,.str v3),(4,vi v4),(5,.own 5 0),(54,vb v54)] [(5,96,qc26 b5)] (cB (cA (cB (cE (cB (cB (cI (cA (cB (cI (cI (cB (cA (cB (cB (cF Tryd.f78)))))))))))))))) Q:=by
 unfold ref13_Text_j6 at h
 refine cn h (fun h=>?_) (fun h=>?_)
 ·obtain ⟨r3,hr3,h⟩:=bind_of h
  obtain ⟨hc4,h⟩:=chk_of h
  refine rr [] [(3,.str r3)] [] [0,3,4] [] [(0,rs22 v0),(3,.str (v3 ++ r3)),(4,vi v4)] [] [(true = true → CX Tryd.prog 78 [rs22 b5.f_Sub] (.str r3)),_] (AllP.cons (fun _=>cx (hR_ref13_Text b5.f_Sub _ hr3)) (AllP.cons hc4 AllP.nil)) (kt [0,3,4] [] [(0,rs22 v0),(3,.str (v3 ++ r3)),(4,vi v4)] [] ?_)
  cases h
  exact hQ
 ·refine Wp.skip (kt [0,3,4] [] [(0,rs22 v0),(3,.str v3),(4,vi v4)] [] ?_)
  cases h
  exact hQ
def ref13_Text_j2 (R_ref13_Text:(List (S_ref13_Part)) → Option ((List UInt8))) (n:Nat) (v0:List (S_ref13_Part)) (v3:List UInt8) (v4:Int):Option ((List UInt8)) :=
 if (decide (0 ≤ v4 ∧ v4 < (List.length v0:Int))) = true then (if ((((v0)[Int.toNat v4]?.getD (S_ref13_Part.mk [] [] 0 [])).f_Op) == 0) = true then ((ref13_Text_l3 R_ref13_Text n v0 v4 ((v0)[Int.toNat v4]?.getD (S_ref13_Part.mk [] [] 0 [])) n v3 0).bind fun o1 =>
 some o1)
 else (if (decide (((List.length v3 + List.length ([36]:List UInt8):Nat):Int) ≤ 9223372036854775807)) = true then (if (decide (((List.length (v3 ++ [36]) + List.length ([123]:List UInt8):Nat):Int) ≤ 9223372036854775807)) = true then (if (decide (((List.length ((v3 ++ [36]) ++ [123]) + List.length (((v0)[Int.toNat v4]?.getD (S_ref13_Part.mk [] [] 0 [])).f_Name):Nat):Int) ≤ 9223372036854775807)) = true then ((ref13_mark n (((v0)[Int.toNat v4]?.getD (S_ref13_Part.mk [] [] 0 [])).f_Op)).bind fun r2 =>
 if (decide (((List.length (((v3 ++ [36]) ++ [123]) ++ (((v0)[Int.toNat v4]?.getD (S_ref13_Part.mk [] [] 0 [])).f_Name)) + List.length r2:Nat):Int) ≤ 9223372036854775807)) = true then ((ref13_Text_j6 R_ref13_Text n v0 ((((v3 ++ [36]) ++ [123]) ++ (((v0)[Int.toNat v4]?.getD (S_ref13_Part.mk [] [] 0 [])).f_Name)) ++ r2) v4 (decide ((((v0)[Int.toNat v4]?.getD (S_ref13_Part.mk [] [] 0 [])).f_Op) > 1)) ((v0)[Int.toNat v4]?.getD (S_ref13_Part.mk [] [] 0 []))).bind fun o3 =>
 if (decide (((List.length o3 + List.length ([125]:List UInt8):Nat):Int) ≤ 9223372036854775807)) = true then (some (o3 ++ [125])) else none) else none) else none) else none) else none)) else none
abbrev ex29 (x0:List (S_ref13_Part)) (x1:Int):Nat × Nat × List D:=(5,96,[.str (((x0)[Int.toNat x1]?.getD zx20).f_Name),.str (((x0)[Int.toNat x1]?.getD zx20).f_Text),vi (((x0)[Int.toNat x1]?.getD zx20).f_Op),tn24 (((x0)[Int.toNat x1]?.getD zx20).f_Sub)])
abbrev ex30 (x0:List UInt8) (x1:List (S_ref13_Part)) (x2:Int):=(((x0 ++ [36]) ++ [123]) ++ (((x1)[Int.toNat x2]?.getD zx20).f_Name))
abbrev ex41 (x0:List (S_ref13_Part)) (x1:Int):=((x0)[Int.toNat x1]?.getD zx20)
theorem ok_ref13_Text_j2 (R_ref13_Text:(List (S_ref13_Part)) → Option ((List UInt8))) (hR_ref13_Text:hR27 R_ref13_Text) (n:Nat) (v0:List (S_ref13_Part)) (v3:List UInt8) (v4:Int) (o:(List UInt8)) (h:ref13_Text_j2 R_ref13_Text n v0 v3 v4 = some o) {F0:Fz} {w0:Pt Tryd.prog} {Q:Exit → Act → World → Prop} (hQ:To 63 F0 w0 [(0,rs22 v0),(3,.str o),(4,vi v4)] [] .normal Q):Wp Tryd.prog 63 F0 w0 [(0,rs22 v0),(3,.str v3),(4,vi v4)] [] (cA (cB (cI (cI (cB (cA (cB (cB (cF Tryd.f78))))))))) Q:=by
 unfold ref13_Text_j2 at h
 refine Wp.block (Wp.seq ?_)
 obtain ⟨hc9,h⟩:=chk_of h
 refine r0 [0,3,4,5] [5] [(0,rs22 v0),(3,.str v3),(4,vi v4),(5,.own 5 0)] [(ex29 v0 v4)] (AllP.cons hc9 AllP.nil) (To.thenN (Wp.seq (rg [0,3,4,5,19] [5] [(0,rs22 v0),(3,.str v3),(4,vi v4),(5,.own 5 0),(19,vb (((ex41 v0 v4).f_Op) == 0))] [(ex29 v0 v4)] (To.thenN (cn h (fun h=>?_) (fun h=>?_))))))
 ·refine Wp.seq (rg [0,3,4,5,6] [5] [(0,rs22 v0),(3,.str v3),(4,vi v4),(5,.own 5 0),(6,vi 0)] [(ex29 v0 v4)] (To.thenN (Wp.block ?_)))
  obtain ⟨o1,ho1,h⟩:=bind_of h
  refine kw [0,3,4,5,6] [5] [(0,rs22 v0),(3,.str v3),(4,vi v4),(5,.own 5 0),(6,vi 0)] [(ex29 v0 v4)] (Wp.loopL (ok_ref13_Text_l3 R_ref13_Text hR_ref13_Text n v0 v4 (ex41 v0 v4) n v3 0 o1 ho1 (To.blockX (To.blockN (kt [0,3,4] [] [(0,rs22 v0),(3,.str o1),(4,vi v4)] [] ?_)))))
  cases h
  exact hQ
 ·refine Wp.seq ?_
  obtain ⟨hc5,h⟩:=chk_of h
  obtain ⟨hc6,h⟩:=chk_of h
  obtain ⟨hc7,h⟩:=chk_of h
  obtain ⟨r2,hr2,h⟩:=bind_of h
  obtain ⟨hc8,h⟩:=chk_of h
  refine Wp.regionD hm hΓ [(8,.str r2)] [0,3,4,5] [5] (K':=[(0,rs22 v0),(3,.str ((ex30 v3 v0 v4) ++ r2)),(4,vi v4),(5,.own 5 0)]) (L':=[(ex29 v0 v4)]) (ob:=[(decide (((List.length v3 + List.length ([36]:List UInt8):Nat):Int) ≤ 9223372036854775807)) = true,(decide (((List.length (v3 ++ [36]) + List.length ([123]:List UInt8):Nat):Int) ≤ 9223372036854775807)) = true,(decide (((List.length ((v3 ++ [36]) ++ [123]) + List.length ((ex41 v0 v4).f_Name):Nat):Int) ≤ 9223372036854775807)) = true,(true = true → CX Tryd.prog 109 [vi ((ex41 v0 v4).f_Op)] (.str r2)),(decide (((List.length (ex30 v3 v0 v4) + List.length r2:Nat):Int) ≤ 9223372036854775807)) = true]) (by kernel_rfl) (AllP.cons hc5 (AllP.cons hc6 (AllP.cons hc7 (AllP.cons (fun _=>cx (ok_ref13_mark n ((ex41 v0 v4).f_Op) _ hr2)) (AllP.cons hc8 AllP.nil))))) (To.thenN (Wp.seq (Wp.seq (rg [0,3,4,5,54] [5] [(0,rs22 v0),(3,.str ((ex30 v3 v0 v4) ++ r2)),(4,vi v4),(5,.own 5 0),(54,vb (decide (((ex41 v0 v4).f_Op) > 1)))] [(ex29 v0 v4)] (To.thenN ?_)))))
  obtain ⟨o3,ho3,h⟩:=bind_of h
  refine kw [0,3,4,5,54] [5] [(0,rs22 v0),(3,.str ((ex30 v3 v0 v4) ++ r2)),(4,vi v4),(5,.own 5 0),(54,vb (decide (((ex41 v0 v4).f_Op) > 1)))] [(ex29 v0 v4)] (ok_ref13_Text_j6 R_ref13_Text hR_ref13_Text n v0 ((ex30 v3 v0 v4) ++ r2) v4 (decide (((ex41 v0 v4).f_Op) > 1)) (ex41 v0 v4) o3 ho3 (To.thenN ?_))
  obtain ⟨hc4,h⟩:=chk_of h
  refine r0 [0,3,4] [] [(0,rs22 v0),(3,.str (o3 ++ [125])),(4,vi v4)] [] (AllP.cons hc4 AllP.nil) (To.blockN ?_)
  cases h
  exact hQ
def ref13_Text_l1 (R_ref13_Text:(List (S_ref13_Part)) → Option ((List UInt8))) (n:Nat) (v0:List (S_ref13_Part)):Nat → (List UInt8) → Int → Option ((List UInt8))
 | 0,_,_=>none
 | k + 1,v3,v4=>if (decide (v4 < (List.length v0:Int))) = true then ((ref13_Text_j2 R_ref13_Text n v0 v3 v4).bind fun o1 =>
 ref13_Text_l1 R_ref13_Text n v0 k o1 (IntKind.wrap .i64 (v4 + 1)))
 else some v3
theorem ok_ref13_Text_l1 (R_ref13_Text:(List (S_ref13_Part)) → Option ((List UInt8))) (hR_ref13_Text:hR27 R_ref13_Text) (n:Nat) (v0:List (S_ref13_Part)) {F0:Fz} {w0:Pt Tryd.prog} {Q:Exit → Act → World → Prop} (k:Nat):∀ (v3:List UInt8) (v4:Int) (o:(List UInt8)),ref13_Text_l1 R_ref13_Text n v0 k v3 v4 = some o → To 63 F0 w0 [(3,.str o)] [] (.exit 0) Q → WL Tryd.prog 63 F0 w0 [(0,rs22 v0),(3,.str v3),(4,vi v4)] [] (cI (cI (cB (cA (cB (cB (cF Tryd.f78))))))) Q:=by
 induction k with
 | zero=>intro v3 v4 o h; cases h
 | succ k ih =>
  intro v3 v4 o h hQ
  rw [ref13_Text_l1] at h
  refine WL.round (Wp.seq (Wp.seq (rg [0,3,4,10] [] [(0,rs22 v0),(3,.str v3),(4,vi v4),(10,vb (decide (v4 < (List.length v0:Int))))] [] (To.thenN (cn h (fun h=>?_) (fun h=>?_))))))
  ·refine Wp.skip (To.thenN (Wp.seq ?_))
   obtain ⟨o1,ho1,h⟩:=bind_of h
   refine kw [0,3,4] [] [(0,rs22 v0),(3,.str v3),(4,vi v4)] [] (ok_ref13_Text_j2 R_ref13_Text hR_ref13_Text n v0 v3 v4 o1 ho1 (To.thenN (rg [0,3,4] [] [(0,rs22 v0),(3,.str o1),(4,vi (IntKind.wrap .i64 (v4 + 1)))] [] (kt [0,3,4] [] [(0,rs22 v0),(3,.str o1),(4,vi (IntKind.wrap .i64 (v4 + 1)))] [] (To.again ?_)))))
   exact ih o1 (IntKind.wrap .i64 (v4 + 1)) _ h hQ
  ·refine Wp.exit (To.thenX (To.thenX (kt [3] [] [(3,.str v3)] [] ?_)))
   cases h
   exact hQ
def ref13_Text_b (R_ref13_Text:(List (S_ref13_Part)) → Option ((List UInt8))) (n:Nat) (a0:List (S_ref13_Part)):Option ((List UInt8)) :=
 (ref13_Text_l1 R_ref13_Text n a0 n [] 0).bind fun o1 =>
 some o1
theorem ok_ref13_Text_b (R_ref13_Text:(List (S_ref13_Part)) → Option ((List UInt8))) (hR_ref13_Text:hR27 R_ref13_Text) (n:Nat) (a0:List (S_ref13_Part)) (r:(List UInt8)) (h:ref13_Text_b R_ref13_Text n a0 = some r):CallsX Tryd.prog 78 [rs22 a0] (.str r):=by
 unfold ref13_Text_b at h
 refine xo Tryd.f78 rfl fun F0 w0 _=>?_
 refine Wp.seq (rg [0] [] [(0,rs22 a0)] [] (To.thenN (Wp.seq (rg [0,3] [] [(0,rs22 a0),(3,.str [])] [] (To.thenN (Wp.seq (Wp.seq (rg [0,3,4] [] [(0,rs22 a0),(3,.str []),(4,vi 0)] [] (To.thenN (Wp.block ?_))))))))))
 obtain ⟨o1,ho1,h⟩:=bind_of h
 refine kw [0,3,4] [] [(0,rs22 a0),(3,.str []),(4,vi 0)] [] (Wp.loopL (ok_ref13_Text_l1 R_ref13_Text hR_ref13_Text n a0 n [] 0 o1 ho1 (To.blockX (To.thenN (Wp.seq (rg [2] [] [(2,.str o1)] [] (To.thenN (Wp.ret ?_))))))))
 cases h
 exact To.done hΓ (by kernel_rfl)
def ref13_Text:Nat → (List (S_ref13_Part)) → Option ((List UInt8))
 | 0=>fun _=>none
 | n + 1=>ref13_Text_b (ref13_Text n) n
theorem ok_ref13_Text (n:Nat):∀ (a0:List (S_ref13_Part)) (r:(List UInt8)),ref13_Text n a0 = some r → CallsX Tryd.prog 78 [rs22 a0] (.str r):=by
 induction n with
 | zero=>intro a0 r h; cases h
 | succ n ih=>exact fun a0 r h=>ok_ref13_Text_b (ref13_Text n) ih n a0 r h
def ref14_part (R_ref14_Parts:(List (S_ref13_Part)) → (List (S_api_Var)) → Option (S_ref14_Said)) (n:Nat) (a0:S_ref13_Part) (a1:List (S_api_Var)):Option (S_ref14_Said) :=
 if (a0.f_Op == 0) = true then (some (S_ref14_Said.mk a0.f_Text [] [] 0))
 else ((ref12_Last n a1 a0.f_Name).bind fun r1 =>
 lett ((bif (bif (bif (bif (a0.f_Op == 2) then (!(bif r1.2 then (decide ((List.length r1.1:Int) > 0)) else false)) else false) then true else (bif (a0.f_Op == 3) then (!r1.2) else false)) then true else (bif (a0.f_Op == 6) then (bif r1.2 then (decide ((List.length r1.1:Int) > 0)) else false) else false)) then true else (bif (a0.f_Op == 7) then r1.2 else false)):Bool) fun x2 =>
 if x2 = true then ((R_ref14_Parts a0.f_Sub a1).bind fun r3 =>
 some r3)
 else (lett ((bif (bif (a0.f_Op == 4) then (!(bif r1.2 then (decide ((List.length r1.1:Int) > 0)) else false)) else false) then true else (bif (a0.f_Op == 5) then (!r1.2) else false)):Bool) fun x4 =>
 if x4 = true then ((ref13_Text n a0.f_Sub).bind fun r5 =>
 some (S_ref14_Said.mk [] a0.f_Name r5 4))
 else (if (bif (decide (a0.f_Op > 5)) then true else (!r1.2)) = true then (some (S_ref14_Said.mk [] [] [] 0))
 else (some (S_ref14_Said.mk r1.1 [] [] 0)))))
abbrev hR28 (R_ref14_Parts:(List (S_ref13_Part)) → (List (S_api_Var)) → Option (S_ref14_Said)):Prop:=∀ (a0:List (S_ref13_Part)) (a1:List (S_api_Var)) (r:S_ref14_Said),R_ref14_Parts a0 a1 = some r → CallsX Tryd.prog 28 [rs22 a0,rs9 a1] (.agg [.str r.f_Text,.str r.f_Key,.str r.f_Why,vi r.f_E])
abbrev qc29 (x:S_ref14_Said):List D:=[.str x.f_Text,.str x.f_Key,.str x.f_Why,vi x.f_E]
theorem ok_ref14_part (R_ref14_Parts:(List (S_ref13_Part)) → (List (S_api_Var)) → Option (S_ref14_Said)) (hR_ref14_Parts:hR28 R_ref14_Parts) (n:Nat) (a0:S_ref13_Part) (a1:List (S_api_Var)) (r:S_ref14_Said) (h:ref14_part R_ref14_Parts n a0 a1 = some r):CallsX Tryd.prog 47 [.agg (qc26 a0),rs9 a1] (.agg (qc29 r)):=by
 unfold ref14_part at h
 refine xo Tryd.f47 rfl fun F0 w0 _=>?_
 refine Wp.seq (rg [1,2,4] [2,4] [(1,rs9 a1),(2,.own 2 0),(4,.own 4 0)] [(2,96,qc26 a0),(4,30,[.str [],.str [],.str [],vi 0])] (To.thenN (Wp.seq (Wp.seq (rg [1,2,4,10] [2,4] [(1,rs9 a1),(2,.own 2 0),(4,.own 4 0),(10,vb (a0.f_Op == 0))] [(2,96,qc26 a0),(4,30,[.str [],.str [],.str [],vi 0])] (To.thenN (cn h (fun h=>?_) (fun h=>?_))))))))
 ·refine Wp.seq (rg [4] [4] [(4,.own 4 0)] [(4,30,[.str a0.f_Text,.str [],.str [],vi 0])] (To.thenN (Wp.ret (To.thenR ?_))))
  cases h
  exact To.done hΓ (by kernel_rfl)
 ·refine Wp.skip (To.thenN (Wp.seq ?_))
  obtain ⟨r1,hr1,h⟩:=bind_of h
  refine rc [] 3 [1,2,4,5,6] [2,4] [(1,rs9 a1),(2,.own 2 0),(4,.own 4 0),(5,.str r1.1),(6,vb r1.2)] [(2,96,qc26 a0),(4,30,[.str [],.str [],.str [],vi 0])] (ok_ref12_Last n a1 a0.f_Name _ hr1) (To.thenN (Wp.seq (rg [1,2,4,5,6,7] [2,4] [(1,rs9 a1),(2,.own 2 0),(4,.own 4 0),(5,.str r1.1),(6,vb r1.2),(7,vb (bif r1.2 then (decide ((List.length r1.1:Int) > 0)) else false))] [(2,96,qc26 a0),(4,30,[.str [],.str [],.str [],vi 0])] (To.thenN (Wp.seq (Wp.seq ?_))))))
  obtain ⟨x2,hx2,h⟩:=lett_of h
  refine rg [1,2,4,5,6,7,58] [2,4] [(1,rs9 a1),(2,.own 2 0),(4,.own 4 0),(5,.str r1.1),(6,vb r1.2),(7,vb (bif r1.2 then (decide ((List.length r1.1:Int) > 0)) else false)),(58,vb (bif (bif (bif (bif (a0.f_Op == 2) then (!(bif r1.2 then (decide ((List.length r1.1:Int) > 0)) else false)) else false) then true else (bif (a0.f_Op == 3) then (!r1.2) else false)) then true else (bif (a0.f_Op == 6) then (bif r1.2 then (decide ((List.length r1.1:Int) > 0)) else false) else false)) then true else (bif (a0.f_Op == 7) then r1.2 else false)))] [(2,96,qc26 a0),(4,30,[.str [],.str [],.str [],vi 0])] (To.eq (K':=[(1,rs9 a1),(2,.own 2 0),(4,.own 4 0),(5,.str r1.1),(6,vb r1.2),(7,vb (bif r1.2 then (decide ((List.length r1.1:Int) > 0)) else false)),(58,vb x2)]) (L':=[(2,96,qc26 a0),(4,30,[.str [],.str [],.str [],vi 0])]) (by cases hx2; rfl) (by cases hx2; rfl) (To.thenN (cn h (fun h=>?_) (fun h=>?_))))
  ·refine Wp.seq ?_
   obtain ⟨r3,hr3,h⟩:=bind_of h
   refine rr [] [(3,.agg (qc29 r3))] [] [4] [4] [(4,.own 4 0)] [(4,30,qc29 r3)] [(true = true → CX Tryd.prog 28 [rs22 a0.f_Sub,rs9 a1] (.agg (qc29 r3)))] (AllP.cons (fun _=>cx (hR_ref14_Parts a0.f_Sub a1 _ hr3)) AllP.nil) (To.thenN (Wp.ret (To.thenR ?_)))
   cases h
   exact To.done hΓ (by kernel_rfl)
  ·refine Wp.skip (To.thenN (Wp.seq (Wp.seq ?_)))
   obtain ⟨x4,hx4,h⟩:=lett_of h
   refine rg [2,4,5,6,78] [2,4] [(2,.own 2 0),(4,.own 4 0),(5,.str r1.1),(6,vb r1.2),(78,vb (bif (bif (a0.f_Op == 4) then (!(bif r1.2 then (decide ((List.length r1.1:Int) > 0)) else false)) else false) then true else (bif (a0.f_Op == 5) then (!r1.2) else false)))] [(2,96,qc26 a0),(4,30,[.str [],.str [],.str [],vi 0])] (To.eq (K':=[(2,.own 2 0),(4,.own 4 0),(5,.str r1.1),(6,vb r1.2),(78,vb x4)]) (L':=[(2,96,qc26 a0),(4,30,[.str [],.str [],.str [],vi 0])]) (by cases hx4; rfl) (by cases hx4; rfl) (To.thenN (cn h (fun h=>?_) (fun h=>?_))))
   ·refine Wp.seq ?_
    obtain ⟨r5,hr5,h⟩:=bind_of h
    refine Wp.regionD hm hΓ [(4,.str r5)] [4] [4] (K':=[(4,.own 4 0)]) (L':=[(4,30,[.str [],.str a0.f_Name,.str r5,vi 4])]) (ob:=[(true = true → CX Tryd.prog 78 [rs22 a0.f_Sub] (.str r5))]) (by kernel_rfl) (AllP.cons (fun _=>cx (ok_ref13_Text n a0.f_Sub _ hr5)) AllP.nil) (To.thenN (Wp.ret (To.thenR ?_)))
    cases h
    exact To.done hΓ (by kernel_rfl)
   ·refine Wp.skip (To.thenN (Wp.seq (Wp.seq (rg [4,5,91] [4] [(4,.own 4 0),(5,.str r1.1),(91,vb (bif (decide (a0.f_Op > 5)) then true else (!r1.2)))] [(4,30,[.str [],.str [],.str [],vi 0])] (To.thenN (cn h (fun h=>?_) (fun h=>?_)))))))
    ·refine Wp.seq (rg [4] [4] [(4,.own 4 0)] [(4,30,[.str [],.str [],.str [],vi 0])] (To.thenN (Wp.ret (To.thenR ?_))))
     cases h
     exact To.done hΓ (by kernel_rfl)
    ·refine Wp.skip (To.thenN (Wp.seq (rg [4] [4] [(4,.own 4 0)] [(4,30,[.str r1.1,.str [],.str [],vi 0])] (To.thenN (Wp.ret ?_)))))
     cases h
     exact To.done hΓ (by kernel_rfl)
def ref14_Parts_l1 (R_ref14_Parts:(List (S_ref13_Part)) → (List (S_api_Var)) → Option (S_ref14_Said)) (n:Nat) (v0:List (S_ref13_Part)) (v1:List (S_api_Var)):Nat → (List UInt8) → Int → S_ref14_Said → Option (Sum ((List UInt8) × S_ref14_Said) (S_ref14_Said))
 | 0,_,_,_=>none
 | k + 1,v5,v6,b4=>if (decide (v6 < (List.length v0:Int))) = true then (if (decide (0 ≤ v6 ∧ v6 < (List.length v0:Int))) = true then ((ref14_part R_ref14_Parts n ((v0)[Int.toNat v6]?.getD (S_ref13_Part.mk [] [] 0 [])) v1).bind fun r1 =>
 if (r1.f_E != 0) = true then (some (.inr r1))
 else (if (decide (((List.length v5 + List.length r1.f_Text:Nat):Int) ≤ 9223372036854775807)) = true then (if (decide ((List.length (v5 ++ r1.f_Text):Int) > 8192)) = true then (some (.inr (S_ref14_Said.mk [] [] [] 9)))
 else (ref14_Parts_l1 R_ref14_Parts n v0 v1 k (v5 ++ r1.f_Text) (IntKind.wrap .i64 (v6 + 1)) b4)) else none)) else none)
 else (some (.inl (v5,b4)))
abbrev ex31 (x0:List (S_ref13_Part)) (x1:Int):=((x0)[Int.toNat x1]?.getD zx20)
theorem ok_ref14_Parts_l1 (R_ref14_Parts:(List (S_ref13_Part)) → (List (S_api_Var)) → Option (S_ref14_Said)) (hR_ref14_Parts:hR28 R_ref14_Parts) (n:Nat) (v0:List (S_ref13_Part)) (v1:List (S_api_Var)) {F0:Fz} {w0:Pt Tryd.prog} {Q:Exit → Act → World → Prop} (k:Nat):∀ (v5:List UInt8) (v6:Int) (b4:S_ref14_Said) (o:Sum ((List UInt8) × S_ref14_Said) (S_ref14_Said)),ref14_Parts_l1 R_ref14_Parts n v0 v1 k v5 v6 b4 = some o → (Sum.elim (fun s=>To 34 F0 w0 [(4,.own 4 0),(5,.str s.1)] [(4,30,qc29 s.2)] (.exit 0) Q) (fun s=>To 34 F0 w0 [(4,.own 4 0)] [(4,30,qc29 s)] .ret Q)) o → WL Tryd.prog 34 F0 w0 [(0,rs22 v0),(1,rs9 v1),(4,.own 4 0),(5,.str v5),(6,vi v6)] [(4,30,qc29 b4)] (cI (cI (cB (cA (cB (cB (cF Tryd.f28))))))) Q:=by
 induction k with
 | zero=>intro v5 v6 b4 o h; cases h
 | succ k ih =>
  intro v5 v6 b4 o h hQ
  rw [ref14_Parts_l1] at h
  refine WL.round (Wp.seq (Wp.seq (rg [0,1,4,5,6,11] [4] [(0,rs22 v0),(1,rs9 v1),(4,.own 4 0),(5,.str v5),(6,vi v6),(11,vb (decide (v6 < (List.length v0:Int))))] [(4,30,qc29 b4)] (To.thenN (cn h (fun h=>?_) (fun h=>?_))))))
  ·refine Wp.skip (To.thenN (Wp.seq (Wp.block (Wp.seq ?_))))
   obtain ⟨hc3,h⟩:=chk_of h
   obtain ⟨r1,hr1,h⟩:=bind_of h
   refine rr [] [(5,.agg (qc29 r1))] [] [0,1,4,5,6,7] [4,7] [(0,rs22 v0),(1,rs9 v1),(4,.own 4 0),(5,.str v5),(6,vi v6),(7,.own 7 0)] [(4,30,qc29 b4),(7,30,qc29 r1)] [_,_] (AllP.cons hc3 (AllP.cons (c1 (ok_ref14_part R_ref14_Parts hR_ref14_Parts n (ex31 v0 v6) v1 _ hr1)) AllP.nil)) (To.thenN (Wp.seq (Wp.seq (rg [0,1,4,5,6,7,22] [4,7] [(0,rs22 v0),(1,rs9 v1),(4,.own 4 0),(5,.str v5),(6,vi v6),(7,.own 7 0),(22,vb (r1.f_E != 0))] [(4,30,qc29 b4),(7,30,qc29 r1)] (To.thenN (cn h (fun h=>?_) (fun h=>?_)))))))
   ·refine Wp.seq (rg [4] [4] [(4,.own 4 0)] [(4,30,qc29 r1)] (To.thenN (Wp.ret (To.thenR (To.blockR (To.thenR (To.thenR ?_)))))))
    cases h
    exact hQ
   ·refine Wp.skip (To.thenN (Wp.seq ?_))
    obtain ⟨hc2,h⟩:=chk_of h
    refine r0 [0,1,4,5,6] [4] [(0,rs22 v0),(1,rs9 v1),(4,.own 4 0),(5,.str (v5 ++ r1.f_Text)),(6,vi v6)] [(4,30,qc29 b4)] (AllP.cons hc2 AllP.nil) (To.thenN (Wp.seq (rg [0,1,4,5,6,30] [4] [(0,rs22 v0),(1,rs9 v1),(4,.own 4 0),(5,.str (v5 ++ r1.f_Text)),(6,vi v6),(30,vb (decide ((List.length (v5 ++ r1.f_Text):Int) > 8192)))] [(4,30,qc29 b4)] (To.thenN (cn h (fun h=>?_) (fun h=>?_))))))
    ·refine Wp.seq (rg [4] [4] [(4,.own 4 0)] [(4,30,[.str [],.str [],.str [],vi 9])] (To.thenN (Wp.ret (To.blockR (To.thenR (To.thenR ?_))))))
     cases h
     exact hQ
    ·refine Wp.skip (To.blockN (To.thenN (rg [0,1,4,5,6] [4] [(0,rs22 v0),(1,rs9 v1),(4,.own 4 0),(5,.str (v5 ++ r1.f_Text)),(ex20 v6)] [(4,30,qc29 b4)] (kt [0,1,4,5,6] [4] [(0,rs22 v0),(1,rs9 v1),(4,.own 4 0),(5,.str (v5 ++ r1.f_Text)),(ex20 v6)] [(4,30,qc29 b4)] (To.again ?_)))))
     exact ih (v5 ++ r1.f_Text) (IntKind.wrap .i64 (v6 + 1)) b4 _ h hQ
  ·refine Wp.exit (To.thenX (To.thenX (kt [4,5] [4] [(4,.own 4 0),(5,.str v5)] [(4,30,qc29 b4)] ?_)))
   cases h
   exact hQ
def ref14_Parts_b (R_ref14_Parts:(List (S_ref13_Part)) → (List (S_api_Var)) → Option (S_ref14_Said)) (n:Nat) (a0:List (S_ref13_Part)) (a1:List (S_api_Var)):Option (S_ref14_Said) :=
 (ref14_Parts_l1 R_ref14_Parts n a0 a1 n [] 0 (S_ref14_Said.mk [] [] [] 0)).bind fun o1 =>
 (Sum.elim (fun o1=>some (S_ref14_Said.mk o1.1 [] [] 0)) (fun o1=>some o1)) o1
abbrev zx30:S_ref14_Said:=S_ref14_Said.mk [] [] [] 0
theorem ok_ref14_Parts_b (R_ref14_Parts:(List (S_ref13_Part)) → (List (S_api_Var)) → Option (S_ref14_Said)) (hR_ref14_Parts:hR28 R_ref14_Parts) (n:Nat) (a0:List (S_ref13_Part)) (a1:List (S_api_Var)) (r:S_ref14_Said) (h:ref14_Parts_b R_ref14_Parts n a0 a1 = some r):CallsX Tryd.prog 28 [rs22 a0,rs9 a1] (.agg (qc29 r)):=by
 unfold ref14_Parts_b at h
 refine xo Tryd.f28 rfl fun F0 w0 _=>?_
 refine Wp.seq (rg [0,1,4] [4] [(0,rs22 a0),(1,rs9 a1),(4,.own 4 0)] [(4,30,[.str [],.str [],.str [],vi 0])] (To.thenN (Wp.seq (rg [0,1,4,5] [4] [(0,rs22 a0),(1,rs9 a1),(4,.own 4 0),(5,.str [])] [(4,30,[.str [],.str [],.str [],vi 0])] (To.thenN (Wp.seq (Wp.seq (rg [0,1,4,5,6] [4] [(0,rs22 a0),(1,rs9 a1),(4,.own 4 0),(5,.str []),(6,vi 0)] [(4,30,[.str [],.str [],.str [],vi 0])] (To.thenN (Wp.block ?_))))))))))
 obtain ⟨o1,ho1,h⟩:=bind_of h
 refine kw [0,1,4,5,6] [4] [(0,rs22 a0),(1,rs9 a1),(4,.own 4 0),(5,.str []),(6,vi 0)] [(4,30,[.str [],.str [],.str [],vi 0])] (Wp.loopL (ok_ref14_Parts_l1 R_ref14_Parts hR_ref14_Parts n a0 a1 n [] 0 zx30 o1 ho1 ?_))
 rcases o1 with o1 | o1
 ·replace h:=sum_l h
  refine To.blockX (To.thenN (Wp.seq (rg [4] [4] [(4,.own 4 0)] [(4,30,[.str o1.1,.str [],.str [],vi 0])] (To.thenN (Wp.ret ?_)))))
  cases h
  exact To.done hΓ (by kernel_rfl)
 ·replace h:=sum_r h
  refine To.blockR (To.thenR ?_)
  cases h
  exact To.done hΓ (by kernel_rfl)
def ref14_Parts:Nat → (List (S_ref13_Part)) → (List (S_api_Var)) → Option (S_ref14_Said)
 | 0=>fun _ _=>none
 | n + 1=>ref14_Parts_b (ref14_Parts n) n
theorem ok_ref14_Parts (n:Nat):∀ (a0:List (S_ref13_Part)) (a1:List (S_api_Var)) (r:S_ref14_Said),ref14_Parts n a0 a1 = some r → CallsX Tryd.prog 28 [rs22 a0,rs9 a1] (.agg (qc29 r)):=by
 induction n with
 | zero=>intro a0 a1 r h; cases h
 | succ n ih=>exact fun a0 a1 r h=>ok_ref14_Parts_b (ref14_Parts n) ih n a0 a1 r h
def ref14_Text (n:Nat) (a0:List UInt8) (a1:List (S_api_Var)):Option (S_ref14_Said) :=
 (ref13_Parse n a0).bind fun r1 =>
 if (r1.2 != 0) = true then (some (S_ref14_Said.mk [] [] [] r1.2))
 else ((ref14_Parts n r1.1 a1).bind fun r2 =>
 some r2)
theorem ok_ref14_Text (n:Nat) (a0:List UInt8) (a1:List (S_api_Var)) (r:S_ref14_Said) (h:ref14_Text n a0 a1 = some r):CallsX Tryd.prog 11 [.str a0,rs9 a1] (.agg (qc29 r)):=by
 unfold ref14_Text at h
 refine xo Tryd.f11 rfl fun F0 w0 _=>?_
 refine Wp.seq (rg [0,1,4] [4] [(0,.str a0),(1,rs9 a1),(4,.own 4 0)] [(4,30,[.str [],.str [],.str [],vi 0])] (To.thenN (Wp.seq ?_)))
 obtain ⟨r1,hr1,h⟩:=bind_of h
 refine rc [] 1 [1,4,5,6] [4] [(1,rs9 a1),(4,.own 4 0),(5,rs22 r1.1),(6,vi r1.2)] [(4,30,[.str [],.str [],.str [],vi 0])] (ok_ref13_Parse n a0 _ hr1) (To.thenN (Wp.seq (Wp.seq (rg [1,4,5,6,13] [4] [(1,rs9 a1),(4,.own 4 0),(5,rs22 r1.1),(6,vi r1.2),(13,vb (r1.2 != 0))] [(4,30,[.str [],.str [],.str [],vi 0])] (To.thenN (cn h (fun h=>?_) (fun h=>?_)))))))
 ·refine Wp.seq (rg [4] [4] [(4,.own 4 0)] [(4,30,[.str [],.str [],.str [],vi r1.2])] (To.thenN (Wp.ret (To.thenR ?_))))
  cases h
  exact To.done hΓ (by kernel_rfl)
 ·refine Wp.skip (To.thenN (Wp.seq ?_))
  obtain ⟨r2,hr2,h⟩:=bind_of h
  refine rc [] 2 [4] [4] [(4,.own 4 0)] [(4,30,qc29 r2)] (ok_ref14_Parts n r1.1 a1 _ hr2) (To.thenN (Wp.ret ?_))
  cases h
  exact To.done hΓ (by kernel_rfl)
def subst_Needs (n:Nat) (a0:List (S_tmpl_Part)) (a1:List (S_api_Var)):Option ((List UInt8) × (List UInt8)) :=
 (subst_expand n a0 a1).bind fun r1 =>
 some (r1.2.f_key,r1.2.f_why)
theorem ok_subst_Needs (n:Nat) (a0:List (S_tmpl_Part)) (a1:List (S_api_Var)) (r:(List UInt8) × (List UInt8)) (h:subst_Needs n a0 a1 = some r):CallsX Tryd.prog 14 [rs3 a0,rs9 a1] (.tup [.str r.1,.str r.2]):=by
 unfold subst_Needs at h
 refine xo Tryd.f14 rfl fun F0 w0 _=>?_
 refine Wp.seq (rg [0,1] [] [(0,rs3 a0),(1,rs9 a1)] [] (To.thenN (Wp.seq ?_)))
 obtain ⟨r1,hr1,h⟩:=bind_of h
 refine rc [] 2 [7] [7] [(7,.own 7 0)] [(7,64,qc16 r1.2)] (ok_subst_expand n a0 a1 _ hr1) (To.thenN (Wp.seq (Wp.regionD hm hΓ [] [4,5] [] (K':=[(4,.str r1.2.f_key),(5,.str r1.2.f_why)]) (L':=[]) (ob:=[]) (by kernel_rfl) AllP.nil (To.thenN (Wp.ret ?_)))))
 cases h
 exact To.done hΓ (by kernel_rfl)
def law14_SubstSays (n:Nat) (a0:List UInt8) (a1:List (S_api_Var)):Option (Bool) :=
 ((if ((decide ((List.length a0:Int) > 1000)) == false) = true then law12_Few n a1 60 else some false)).bind fun r1 =>
 if (bif (decide ((List.length a0:Int) > 1000)) then true else (!r1)) = true then ((law14_awake n).bind fun r2 =>
 some r2)
 else ((ref12_Of n a1).bind fun r3 =>
 (subst_Text n a0 r3).bind fun r4 =>
 (ref14_Text n a0 r3).bind fun r5 =>
 if (bif (!(r4.1 == r5.f_Text)) then true else (r4.2 != r5.f_E)) = true then some false
 else ((tmpl_Parse n a0).bind fun r6 =>
 if (r6.2 != 0) = true then (((if ((r4.2 == r6.2) == true) = true then law14_awake n else some false)).bind fun r7 =>
 some (bif (r4.2 == r6.2) then r7 else false))
 else ((subst_Expand n r6.1 r3).bind fun r8 =>
 (subst_Needs n r6.1 r3).bind fun r9 =>
 ((if ((bif (bif (bif (bif (r4.1 == r8.1) then (r4.2 == r8.2) else false) then (r9.1 == r5.f_Key) else false) then (r9.2 == r5.f_Why) else false) then ((r4.2 == 4) == (!(r9.1 == []))) else false) == true) = true then law14_awake n else some false)).bind fun r10 =>
 lett ((bif (bif (bif (bif (bif (r4.1 == r8.1) then (r4.2 == r8.2) else false) then (r9.1 == r5.f_Key) else false) then (r9.2 == r5.f_Why) else false) then ((r4.2 == 4) == (!(r9.1 == []))) else false) then r10 else false):Bool) fun x11 =>
 some x11)))
theorem ok_law14_SubstSays (n:Nat) (a0:List UInt8) (a1:List (S_api_Var)) (r:Bool) (h:law14_SubstSays n a0 a1 = some r):CallsX Tryd.prog 3 [.str a0,rs9 a1] (vb r):=by
 unfold law14_SubstSays at h
 refine xo Tryd.f3 rfl fun F0 w0 _=>?_
 refine Wp.seq (rg [0,1] [] [(0,.str a0),(1,rs9 a1)] [] (To.thenN (Wp.seq (Wp.seq ?_))))
 obtain ⟨r1,hr1,h⟩:=bind_of h
 refine rr [] [(5,vb r1)] [] [0,1,22] [] [(0,.str a0),(1,rs9 a1),(22,vb (bif (decide ((List.length a0:Int) > 1000)) then true else (!r1)))] [] [(((decide ((List.length a0:Int) > 1000)) == false) = true → CX Tryd.prog 7 [rs9 a1,vi 60] (vb r1))] (AllP.cons (fun hg=>cx (ok_law12_Few n a1 60 _ (if_t hg hr1))) AllP.nil) (To.thenN (cn h (fun h=>?_) (fun h=>?_)))
 ·refine Wp.seq ?_
  obtain ⟨r2,hr2,h⟩:=bind_of h
  refine rc [] 0 [4] [] [(4,vb r2)] [] (ok_law14_awake n  _ hr2) (To.thenN (Wp.ret (To.thenR ?_)))
  cases h
  exact To.done hΓ (by kernel_rfl)
 ·refine Wp.skip (To.thenN (Wp.seq ?_))
  obtain ⟨r3,hr3,h⟩:=bind_of h
  refine rc [] 1 [0,5] [] [(0,.str a0),(5,rs9 r3)] [] (ok_ref12_Of n a1 _ hr3) (To.thenN (Wp.seq ?_))
  obtain ⟨r4,hr4,h⟩:=bind_of h
  refine rc [] 2 [0,5,6,7] [] [(0,.str a0),(5,rs9 r3),(6,.str r4.1),(7,vi r4.2)] [] (ok_subst_Text n a0 r3 _ hr4) (To.thenN (Wp.seq ?_))
  obtain ⟨r5,hr5,h⟩:=bind_of h
  refine rc [] 2 [0,5,6,7,8] [8] [(0,.str a0),(5,rs9 r3),(6,.str r4.1),(7,vi r4.2),(8,.own 8 0)] [(8,30,qc29 r5)] (ok_ref14_Text n a0 r3 _ hr5) (To.thenN (Wp.seq (Wp.seq (rg [0,5,6,7,8,44] [8] [(0,.str a0),(5,rs9 r3),(6,.str r4.1),(7,vi r4.2),(8,.own 8 0),(44,vb (bif (!(r4.1 == r5.f_Text)) then true else (r4.2 != r5.f_E)))] [(8,30,qc29 r5)] (To.thenN (cn h (fun h=>?_) (fun h=>?_)))))))
  ·refine Wp.seq (rg [4] [] [(4,vb false)] [] (To.thenN (Wp.ret (To.thenR ?_))))
   cases h
   exact To.done hΓ (by kernel_rfl)
  ·refine Wp.skip (To.thenN (Wp.seq ?_))
   obtain ⟨r6,hr6,h⟩:=bind_of h
   refine rc [] 1 [5,6,7,8,9,10] [8] [(5,rs9 r3),(6,.str r4.1),(7,vi r4.2),(8,.own 8 0),(9,rs3 r6.1),(10,vi r6.2)] [(8,30,qc29 r5)] (ok_tmpl_Parse n a0 _ hr6) (To.thenN (Wp.seq (Wp.seq (rg [5,6,7,8,9,10,51] [8] [(5,rs9 r3),(6,.str r4.1),(7,vi r4.2),(8,.own 8 0),(9,rs3 r6.1),(10,vi r6.2),(51,vb (r6.2 != 0))] [(8,30,qc29 r5)] (To.thenN (cn h (fun h=>?_) (fun h=>?_)))))))
   ·refine Wp.seq ?_
    obtain ⟨r7,hr7,h⟩:=bind_of h
    refine rr [] [(4,vb r7)] [] [4] [] [(4,vb (bif (r4.2 == r6.2) then r7 else false))] [] [(((r4.2 == r6.2) == true) = true → CX Tryd.prog 8 [] (vb r7))] (AllP.cons (fun hg=>cx (ok_law14_awake n  _ (if_t hg hr7))) AllP.nil) (To.thenN (Wp.ret (To.thenR ?_)))
    cases h
    exact To.done hΓ (by kernel_rfl)
   ·refine Wp.skip (To.thenN (Wp.seq ?_))
    obtain ⟨r8,hr8,h⟩:=bind_of h
    refine rc [] 2 [5,6,7,8,9,11,12] [8] [(5,rs9 r3),(6,.str r4.1),(7,vi r4.2),(8,.own 8 0),(9,rs3 r6.1),(11,.str r8.1),(12,vi r8.2)] [(8,30,qc29 r5)] (ok_subst_Expand n r6.1 r3 _ hr8) (To.thenN (Wp.seq ?_))
    obtain ⟨r9,hr9,h⟩:=bind_of h
    refine rc [] 2 [6,7,8,11,12,13,14] [8] [(6,.str r4.1),(7,vi r4.2),(8,.own 8 0),(11,.str r8.1),(12,vi r8.2),(13,.str r9.1),(14,.str r9.2)] [(8,30,qc29 r5)] (ok_subst_Needs n r6.1 r3 _ hr9) (To.thenN (Wp.seq ?_))
    obtain ⟨r10,hr10,h⟩:=bind_of h
    obtain ⟨x11,hx11,h⟩:=lett_of h
    refine rr [] [(28,vb r10)] [] [4] [] [(4,vb (bif (bif (bif (bif (bif (r4.1 == r8.1) then (r4.2 == r8.2) else false) then (r9.1 == r5.f_Key) else false) then (r9.2 == r5.f_Why) else false) then ((r4.2 == 4) == (!(r9.1 == []))) else false) then r10 else false))] [] [(((bif (bif (bif (bif (r4.1 == r8.1) then (r4.2 == r8.2) else false) then (r9.1 == r5.f_Key) else false) then (r9.2 == r5.f_Why) else false) then ((r4.2 == 4) == (!(r9.1 == []))) else false) == true) = true → CX Tryd.prog 8 [] (vb r10))] (AllP.cons (fun hg=>cx (ok_law14_awake n  _ (if_t hg hr10))) AllP.nil) (To.eq (K':=[(4,vb x11)]) (L':=[]) (by cases hx11; rfl) (by cases hx11; rfl) (To.thenN (Wp.ret ?_)))
    cases h
    exact To.done hΓ (by kernel_rfl)
theorem opens_string:Opens Tryd.prog 9 (fun l:List UInt8=>l.length ≤ maxLen) (fun l=>[.str l]):=opens_str (by kernel_rfl)
inductive W_tmpl_Part:S_tmpl_Part → Prop
 | mk (x:S_tmpl_Part) (h:(List.length x.f_Name ≤ maxLen) ∧ (List.length x.f_Text ≤ maxLen) ∧ (IntKind.min .i64 ≤ x.f_Op ∧ x.f_Op ≤ IntKind.max .i64)) (hl:x.f_Sub.length ≤ maxLen) (hk:∀ y ∈ x.f_Sub,W_tmpl_Part y):W_tmpl_Part x
def W_api_Var (x:S_api_Var):Prop:=(List.length x.f_Key ≤ maxLen) ∧ (List.length x.f_Val ≤ maxLen)
theorem opens_api_Var:Opens Tryd.prog 43 W_api_Var (fun x=>[.str x.f_Key,.str x.f_Val]):=by
 intro H enc W fuel cs d ps h
 obtain ⟨hl,hf⟩:=field_of Tryd.underlying43 h
 have hl:cs.length = 2:=hl.trans (by kernel_rfl)
 obtain ⟨x0,w0,r0⟩:=hf 0 _ rfl opens_string
 have r0:=repAt (a':=0) (b':=1) r0 (by kernel_rfl) (by kernel_rfl)
 obtain ⟨x1,w1,r1⟩:=hf 1 _ rfl opens_string
 have r1:=repAt (a':=1) (b':=1) r1 (by kernel_rfl) (by kernel_rfl)
 refine ⟨⟨x0,x1⟩,⟨w0,w1⟩,?_⟩
 refine parts_all (l:=[([.str x0],1),([.str x1],1)]) ⟨r0,r1,Nat.le_of_eq hl⟩ rfl
def W_Lapi_Var (l:List (S_api_Var)):Prop:=l.length ≤ maxLen ∧ ∀ x ∈ l,(W_api_Var x)
theorem opens_Lapi_Var:Opens Tryd.prog 22 W_Lapi_Var (fun l=>[.recs (α:=S_api_Var) (S_api_Var.mk [] []) E_api_Var l]):=opens_slice (α:=S_api_Var) (cells:=E_api_Var) (S_api_Var.mk [] []) (by kernel_rfl) (by kernel_rfl) (of_decide_eq_true (by kernel_rfl)) opens_api_Var
end Go.Proofs.YtibgdilkodjojaaDoor.M
