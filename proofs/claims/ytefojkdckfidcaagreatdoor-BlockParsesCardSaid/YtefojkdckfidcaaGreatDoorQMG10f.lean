import Derived.Test.YtefojkdckfidcaaGreatDoorQMG10e
set_option linter.all false
namespace Go.Proofs.YtefojkdckfidcaaGreatDoor.M
open Go.RowKit Go.Proofs.YtefojkdckfidcaaGreatDoor.RX
set_option maxRecDepth 100000
theorem ok_ref09_pairs_l1 (R_ref09_value:(List UInt8) → Int → Option (S_api_Node × Int)) (hR_ref09_value:hR28 R_ref09_value) (n:Nat) (v0:List UInt8) {F0:Fz} {w0:Pt Tryz.prog} {Q:Exit → Act → World → Prop} (k:Nat):∀ (v1:Int) (b4:S_api_Node) (b6:S_api_Node) (o:Int × S_api_Node),ref09_pairs_l1 R_ref09_value n v0 k v1 b4 b6 = some o → To 73 F0 w0 [(4,.own 4 0),(5,vi o.1)] [(4,26,qc20 4242 4243 o.2),(4242,9,[rc21 o.2.f_Keys]),(4243,26,[rc12 o.2.f_Kids])] .ret Q → WL Tryz.prog 73 F0 w0 [(0,.str v0),(1,vi v1),(4,.own 4 0),(6,.own 6 0)] [(4,26,qc9 b4),(6,26,qc20 4362 4363 b6),(4362,9,[rc21 b6.f_Keys]),(4363,26,[rc12 b6.f_Kids])] (cI (cI (cB (cB (cB (cB (cF Tryz.f133))))))) Q:=by
 induction k with
 | zero=>intro v1 b4 b6 o h; cases h
 | succ k ih =>
  intro v1 b4 b6 o h hQ
  rw [ref09_pairs_l1] at h
  refine WL.round (Wp.block (Wp.seq ?_))
  obtain ⟨r3,hr3,h⟩:=bind_of h
  refine rc [] 2 [0,4,6,7,8] [4,6,4362,4363] [(0,.str v0),(4,.own 4 0),(6,.own 6 0),(7,.str r3.1),(8,vi r3.2)] [(4,26,qc9 b4),(6,26,qc20 4362 4363 b6),(4362,9,[rc21 b6.f_Keys]),(4363,26,[rc12 b6.f_Kids])] (ok_ref09_key n v0 v1 _ hr3) (To.thenN (Wp.seq (Wp.seq ?_)))
  obtain ⟨r4,hr4,h⟩:=bind_of h
  refine rr [] [(6,vb r4)] [] [0,4,6,7,8,34] [4,6,4362,4363] [(0,.str v0),(4,.own 4 0),(6,.own 6 0),(7,.str r3.1),(8,vi r3.2),(34,vb (bif (decide (r3.2 < 0)) then true else r4))] [(4,26,qc9 b4),(6,26,qc20 4362 4363 b6),(4362,9,[rc21 b6.f_Keys]),(4363,26,[rc12 b6.f_Kids])] [(((decide (r3.2 < 0)) == false) = true → CX Tryz.prog 96 [ls b6.f_Keys,.str r3.1] (vb r4))] (AllP.cons (fun hg=>cx (ok_ref02_In n b6.f_Keys r3.1 _ (if_t hg hr4))) AllP.nil) (To.thenN (cn h (fun h=>?_) (fun h=>?_)))
  ·refine Wp.seq (rg [4,5] [4,4362,4363] [(4,.own 4 0),(5,vi (-1))] [(4,26,qc20 4362 4363 b6),(4362,9,[rc21 b6.f_Keys]),(4363,26,[rc12 b6.f_Kids])] (To.thenN (Wp.ret (To.thenR (To.blockR (To.thenR (nt [4,5] [4,4362,4363] [(4362,4242),(4363,4243)] [4,5] [4,4242,4243] [(4,.own 4 0),(5,vi (-1))] [(4,26,qc20 4242 4243 b6),(4242,9,[rc21 b6.f_Keys]),(4243,26,[rc12 b6.f_Kids])] ?_)))))))
   cases h
   exact hQ
  ·refine Wp.skip (To.thenN (Wp.seq ?_))
   obtain ⟨r5,hr5,h⟩:=bind_of h
   refine rr [] [(2,.tup [.agg (qc9 r5.1),vi r5.2])] [] [0,4,6,7,9,10] [4,6,9,4362,4363] [(0,.str v0),(4,.own 4 0),(6,.own 6 0),(7,.str r3.1),(9,.own 9 0),(10,vi r5.2)] [(4,26,qc9 b4),(6,26,qc20 4362 4363 b6),(9,26,qc9 r5.1),(4362,9,[rc21 b6.f_Keys]),(4363,26,[rc12 b6.f_Kids])] [(true = true → CX Tryz.prog 116 [.str v0,vi r3.2] (.tup [.agg (qc9 r5.1),vi r5.2]))] (AllP.cons (fun _=>cx (hR_ref09_value v0 r3.2 _ hr5)) AllP.nil) (To.thenN (Wp.seq (Wp.seq (rg [0,4,6,7,9,10,43] [4,6,9,4362,4363] [(0,.str v0),(4,.own 4 0),(6,.own 6 0),(7,.str r3.1),(9,.own 9 0),(10,vi r5.2),(43,vb (decide (r5.2 < 0)))] [(4,26,qc9 b4),(6,26,qc20 4362 4363 b6),(9,26,qc9 r5.1),(4362,9,[rc21 b6.f_Keys]),(4363,26,[rc12 b6.f_Kids])] (To.thenN (cn h (fun h=>?_) (fun h=>?_)))))))
   ·refine Wp.seq (rg [4,5] [4,4362,4363] [(4,.own 4 0),(5,vi (-1))] [(4,26,qc20 4362 4363 b6),(4362,9,[rc21 b6.f_Keys]),(4363,26,[rc12 b6.f_Kids])] (To.thenN (Wp.ret (To.thenR (To.blockR (To.thenR (nt [4,5] [4,4362,4363] [(4362,4242),(4363,4243)] [4,5] [4,4242,4243] [(4,.own 4 0),(5,vi (-1))] [(4,26,qc20 4242 4243 b6),(4242,9,[rc21 b6.f_Keys]),(4243,26,[rc12 b6.f_Kids])] ?_)))))))
    cases h
    exact hQ
   ·refine Wp.skip (To.thenN (Wp.seq ?_))
    obtain ⟨hc10,h⟩:=chk_of h
    refine rr [] [(3,ls [r3.1]),(4,ls (b6.f_Keys ++ ([r3.1]:List (List UInt8))))] [] [0,4,6,9,10] [4,6,9,49,4363] [(0,.str v0),(4,.own 4 0),(6,.own 6 0),(9,.own 9 0),(10,vi r5.2)] [(4,26,qc9 b4),(6,26,qc20 49 4363 b6),(9,26,qc9 r5.1),(49,9,[rc21 (b6.f_Keys ++ ([r3.1]:List (List UInt8)))]),(4363,26,[rc12 b6.f_Kids])] [(MkOb 1 [.str r3.1] 1 (ls [r3.1]) ∧ GoodR (ls [r3.1])),_,(AppOb [] E_string b6.f_Keys (List.flatMap E_string ([r3.1]:List (List UInt8))) (List.length ([r3.1]:List (List UInt8))) (ls (b6.f_Keys ++ ([r3.1]:List (List UInt8)))) ∧ GoodR (ls (b6.f_Keys ++ ([r3.1]:List (List UInt8)))))] (AllP.cons (mkOb (by kernel_rfl) rfl (by kernel_rfl) (good_E_string _)) (AllP.cons hc10 (AllP.cons (appOb rfl rfl (good_E_string _)) AllP.nil))) (To.thenN (Wp.seq ?_))
    obtain ⟨hc9,h⟩:=chk_of h
    refine rr [] [(3,rs13 [r5.1]),(4,rs13 (b6.f_Kids ++ ([r5.1]:List (S_api_Node))))] [] [0,4,6,10] [4,6,49,55] [(0,.str v0),(4,.own 4 0),(6,.own 6 0),(10,vi r5.2)] [(4,26,qc9 b4),(6,26,qc20 49 55 b6),(49,9,[rc21 (b6.f_Keys ++ ([r3.1]:List (List UInt8)))]),(55,26,[rc12 (b6.f_Kids ++ ([r5.1]:List (S_api_Node)))])] [(MkOb 4 (qc9 r5.1) 1 (rs13 [r5.1]) ∧ GoodR (rs13 [r5.1])),_,(AppOb zx7 E_api_Node b6.f_Kids (List.flatMap E_api_Node ([r5.1]:List (S_api_Node))) (List.length ([r5.1]:List (S_api_Node))) (rs13 (b6.f_Kids ++ ([r5.1]:List (S_api_Node)))) ∧ GoodR (rs13 (b6.f_Kids ++ ([r5.1]:List (S_api_Node)))))] (AllP.cons (mkOb (by kernel_rfl) rfl (by kernel_rfl) (good_E_api_Node _)) (AllP.cons hc9 (AllP.cons (appOb rfl rfl (good_E_api_Node _)) AllP.nil))) (To.thenN (Wp.seq ?_))
    obtain ⟨r6,hr6,h⟩:=bind_of h
    refine rc [] 2 [0,1,4,6] [4,6,49,55] [(0,.str v0),(1,vi r6),(4,.own 4 0),(6,.own 6 0)] [(4,26,qc9 b4),(6,26,qc20 49 55 b6),(49,9,[rc21 (b6.f_Keys ++ ([r3.1]:List (List UInt8)))]),(55,26,[rc12 (b6.f_Kids ++ ([r5.1]:List (S_api_Node)))])] (ok_ref09_blanks n v0 r5.2 _ hr6) (To.thenN (Wp.seq (Wp.seq ?_)))
    obtain ⟨r7,hr7,h⟩:=bind_of h
    refine rc [] 2 [0,1,4,6,62] [4,6,49,55] [(0,.str v0),(1,vi r6),(4,.own 4 0),(6,.own 6 0),(62,vb r7)] [(4,26,qc9 b4),(6,26,qc20 49 55 b6),(49,9,[rc21 (b6.f_Keys ++ ([r3.1]:List (List UInt8)))]),(55,26,[rc12 (b6.f_Kids ++ ([r5.1]:List (S_api_Node)))])] (ok_ref09_is n v0 r6 125 _ hr7) (To.thenN (cn h (fun h=>?_) (fun h=>?_)))
    ·refine Wp.seq (rg [4,5] [4,49,55] [(4,.own 4 0),(5,vi (IntKind.wrap .i64 (r6 + 1)))] [(4,26,qc20 49 55 b6),(49,9,[rc21 (b6.f_Keys ++ ([r3.1]:List (List UInt8)))]),(55,26,[rc12 (b6.f_Kids ++ ([r5.1]:List (S_api_Node)))])] (To.thenN (Wp.ret (To.thenR (To.blockR (To.thenR (nt [4,5] [4,49,55] [(49,4242),(55,4243)] [4,5] [4,4242,4243] [(4,.own 4 0),(5,vi (IntKind.wrap .i64 (r6 + 1)))] [(4,26,qc20 4242 4243 b6),(4242,9,[rc21 (b6.f_Keys ++ ([r3.1]:List (List UInt8)))]),(4243,26,[rc12 (b6.f_Kids ++ ([r5.1]:List (S_api_Node)))])] ?_)))))))
     cases h
     exact hQ
    ·refine Wp.skip (To.thenN (Wp.seq (Wp.seq ?_)))
     obtain ⟨r8,hr8,h⟩:=bind_of h
     refine rc [] 2 [0,1,4,6,69] [4,6,49,55] [(0,.str v0),(1,vi r6),(4,.own 4 0),(6,.own 6 0),(69,vb (!r8))] [(4,26,qc9 b4),(6,26,qc20 49 55 b6),(49,9,[rc21 (b6.f_Keys ++ ([r3.1]:List (List UInt8)))]),(55,26,[rc12 (b6.f_Kids ++ ([r5.1]:List (S_api_Node)))])] (ok_ref09_is n v0 r6 44 _ hr8) (To.thenN (cn h (fun h=>?_) (fun h=>?_)))
     ·refine Wp.seq (rg [4,5] [4,49,55] [(4,.own 4 0),(5,vi (-1))] [(4,26,qc20 49 55 b6),(49,9,[rc21 (b6.f_Keys ++ ([r3.1]:List (List UInt8)))]),(55,26,[rc12 (b6.f_Kids ++ ([r5.1]:List (S_api_Node)))])] (To.thenN (Wp.ret (To.thenR (To.blockR (To.thenR (nt [4,5] [4,49,55] [(49,4242),(55,4243)] [4,5] [4,4242,4243] [(4,.own 4 0),(5,vi (-1))] [(4,26,qc20 4242 4243 b6),(4242,9,[rc21 (b6.f_Keys ++ ([r3.1]:List (List UInt8)))]),(4243,26,[rc12 (b6.f_Kids ++ ([r5.1]:List (S_api_Node)))])] ?_)))))))
      cases h
      exact hQ
     ·refine Wp.skip (To.thenN (rg [0,1,4,6] [4,6,49,55] [(0,.str v0),(1,vi (IntKind.wrap .i64 (r6 + 1))),(4,.own 4 0),(6,.own 6 0)] [(4,26,qc9 b4),(6,26,qc20 49 55 b6),(49,9,[rc21 (b6.f_Keys ++ ([r3.1]:List (List UInt8)))]),(55,26,[rc12 (b6.f_Kids ++ ([r5.1]:List (S_api_Node)))])] (To.blockN (nt [0,1,4,6] [4,6,49,55] [(49,4362),(55,4363)] [0,1,4,6] [4,6,4362,4363] [(0,.str v0),(1,vi (IntKind.wrap .i64 (r6 + 1))),(4,.own 4 0),(6,.own 6 0)] [(4,26,qc9 b4),(6,26,qc20 4362 4363 b6),(4362,9,[rc21 (b6.f_Keys ++ ([r3.1]:List (List UInt8)))]),(4363,26,[rc12 (b6.f_Kids ++ ([r5.1]:List (S_api_Node)))])] (To.again ?_)))))
      exact ih (IntKind.wrap .i64 (r6 + 1)) b4 (S_api_Node.mk b6.f_Kind b6.f_Text (b6.f_Keys ++ ([r3.1]:List (List UInt8))) (b6.f_Kids ++ ([r5.1]:List (S_api_Node)))) _ h hQ
def ref09_pairs (R_ref09_value:(List UInt8) → Int → Option (S_api_Node × Int)) (n:Nat) (a0:List UInt8) (a1:Int):Option (S_api_Node × Int) :=
 (ref09_blanks n a0 a1).bind fun r1 =>
 (ref09_is n a0 r1 125).bind fun r2 =>
 if r2 = true then (some ((S_api_Node.mk 3 [] [] []),(IntKind.wrap .i64 (r1 + 1))))
 else ((ref09_pairs_l1 R_ref09_value n a0 n r1 (S_api_Node.mk 0 [] [] []) (S_api_Node.mk 3 [] [] [])).bind fun o3 =>
 some (o3.2,o3.1))
theorem ok_ref09_pairs (R_ref09_value:(List UInt8) → Int → Option (S_api_Node × Int)) (hR_ref09_value:hR28 R_ref09_value) (n:Nat) (a0:List UInt8) (a1:Int) (r:S_api_Node × Int) (h:ref09_pairs R_ref09_value n a0 a1 = some r):CallsX Tryz.prog 133 [.str a0,vi a1] (.tup [.agg (qc9 r.1),vi r.2]):=by
 unfold ref09_pairs at h
 refine xo Tryz.f133 rfl fun F0 w0 _=>?_
 refine Wp.seq (rg [0,1,4] [4] [(0,.str a0),(1,vi a1),(4,.own 4 0)] [(4,26,[vi 0,.str [],.val (.slice none 0 0),.val (.slice none 0 0)])] (To.thenN (Wp.seq (rg [0,1,4,6] [4,6] [(0,.str a0),(1,vi a1),(4,.own 4 0),(6,.own 6 0)] [(4,26,[vi 0,.str [],.val (.slice none 0 0),.val (.slice none 0 0)]),(6,26,[vi 3,.str [],.val (.slice none 0 0),.val (.slice none 0 0)])] (To.thenN (Wp.seq ?_))))))
 obtain ⟨r1,hr1,h⟩:=bind_of h
 refine rc [] 2 [0,1,4,6] [4,6] [(0,.str a0),(1,vi r1),(4,.own 4 0),(6,.own 6 0)] [(4,26,[vi 0,.str [],.val (.slice none 0 0),.val (.slice none 0 0)]),(6,26,[vi 3,.str [],.val (.slice none 0 0),.val (.slice none 0 0)])] (ok_ref09_blanks n a0 a1 _ hr1) (To.thenN (Wp.seq (Wp.seq ?_)))
 obtain ⟨r2,hr2,h⟩:=bind_of h
 refine rc [] 2 [0,1,4,6,17] [4,6] [(0,.str a0),(1,vi r1),(4,.own 4 0),(6,.own 6 0),(17,vb r2)] [(4,26,[vi 0,.str [],.val (.slice none 0 0),.val (.slice none 0 0)]),(6,26,[vi 3,.str [],.val (.slice none 0 0),.val (.slice none 0 0)])] (ok_ref09_is n a0 r1 125 _ hr2) (To.thenN (cn h (fun h=>?_) (fun h=>?_)))
 ·refine Wp.seq (rg [4,5] [4] [(4,.own 4 0),(5,vi (IntKind.wrap .i64 (r1 + 1)))] [(4,26,[vi 3,.str [],.val (.slice none 0 0),.val (.slice none 0 0)])] (To.thenN (Wp.ret (To.thenR (To.weak (K':=[(4,.own 4 0),(5,vi (IntKind.wrap .i64 (r1 + 1)))]) (L':=[(4,26,[vi 3,.str [],ls [],tn8 []])]) (.cons (.refl _) (.cons (.refl _) .nil)) (.cons (.cons (.refl _) (.cons (.refl _) (.cons (.zero _ _) (.cons (.zeroT _ _ _) .nil)))) .nil) ?_)))))
  cases h
  exact To.done hΓ (by kernel_rfl)
 ·refine Wp.skip (To.thenN (Wp.block ?_))
  obtain ⟨o3,ho3,h⟩:=bind_of h
  refine kw [0,1,4,6] [4,6] [(0,.str a0),(1,vi r1),(4,.own 4 0),(6,.own 6 0)] [(4,26,[vi 0,.str [],.val (.slice none 0 0),.val (.slice none 0 0)]),(6,26,[vi 3,.str [],.val (.slice none 0 0),.val (.slice none 0 0)])] (Wp.pre (St.vacantB 6 2 4362 9 (good_E_string _) (by decide) (by kernel_rfl) (L':=[(4,26,[vi 0,.str [],.val (.slice none 0 0),.val (.slice none 0 0)]),(6,26,[vi 3,.str [],.row 4362,.val (.slice none 0 0)])]) (by kernel_rfl)) (kw [0,1,4,6] [4,6,4362] [(0,.str a0),(1,vi r1),(4,.own 4 0),(6,.own 6 0)] [(4,26,[vi 0,.str [],.val (.slice none 0 0),.val (.slice none 0 0)]),(6,26,[vi 3,.str [],.row 4362,.val (.slice none 0 0)]),(4362,9,[rc19 []])] (Wp.pre (St.settle (ks:=[4362]) (kk:=[0,1,4,6]) (kl:=[4,6,4362]) (K':=[(0,.str a0),(1,vi r1),(4,.own 4 0),(6,.own 6 0)]) (L':=[(4,26,[vi 0,.str [],.val (.slice none 0 0),.val (.slice none 0 0)]),(6,26,[vi 3,.str [],.row 4362,.val (.slice none 0 0)]),(4362,9,[rc21 []])]) (by kernel_rfl)) (Wp.pre (St.vacantB 6 3 4363 26 (good_E_api_Node _) (by decide) (by kernel_rfl) (L':=[(4,26,[vi 0,.str [],.val (.slice none 0 0),.val (.slice none 0 0)]),(6,26,[vi 3,.str [],.row 4362,.row 4363]),(4362,9,[rc21 []])]) (by kernel_rfl)) (kw [0,1,4,6] [4,6,4362,4363] [(0,.str a0),(1,vi r1),(4,.own 4 0),(6,.own 6 0)] [(4,26,[vi 0,.str [],.val (.slice none 0 0),.val (.slice none 0 0)]),(6,26,[vi 3,.str [],.row 4362,.row 4363]),(4362,9,[rc21 []]),(4363,26,[rc12 []])] (Wp.weak (K':=[(0,.str a0),(1,vi r1),(4,.own 4 0),(6,.own 6 0)]) (L':=[(4,26,[vi 0,.str [],ls [],tn8 []]),(6,26,[vi 3,.str [],.row 4362,.row 4363]),(4362,9,[rc21 []]),(4363,26,[rc12 []])]) (.cons (.refl _) (.cons (.refl _) (.cons (.refl _) (.cons (.refl _) .nil)))) (.cons (.cons (.refl _) (.cons (.refl _) (.cons (.zero _ _) (.cons (.zeroT _ _ _) .nil)))) (.cons (.cons (.refl _) (.cons (.refl _) (.cons (.refl _) (.cons (.refl _) .nil)))) (.cons (.cons (.refl _) .nil) (.cons (.cons (.refl _) .nil) .nil)))) (Wp.loopL (ok_ref09_pairs_l1 R_ref09_value hR_ref09_value n a0 n r1 zx7 (S_api_Node.mk 3 [] [] []) o3 ho3 (To.blockR (kt [4,5] [4,4242,4243] [(4,.own 4 0),(5,vi o3.1)] [(4,26,qc20 4242 4243 o3.2),(4242,9,[rc21 o3.2.f_Keys]),(4243,26,[rc12 o3.2.f_Kids])] ?_))))))))))
  refine To.pre (St.settle (ks:=[4243]) (kk:=[4,5]) (kl:=[4,4242,4243]) (K':=[(4,.own 4 0),(5,vi o3.1)]) (L':=[(4,26,qc20 4242 4243 o3.2),(4242,9,[rc21 o3.2.f_Keys]),(4243,26,[rc15 o3.2.f_Kids])]) (by kernel_rfl)) (To.pre (St.sealB [4] (L':=[(4,26,qc16 o3.2),(4242,9,[rc21 o3.2.f_Keys]),(4243,26,[rc15 o3.2.f_Kids])]) (by kernel_rfl)) (To.weak (K':=[(4,.own 4 0),(5,vi o3.1)]) (L':=[(4,26,qc9 o3.2),(4242,9,[rc21 o3.2.f_Keys]),(4243,26,[rc15 o3.2.f_Kids])]) (.cons (.refl _) (.cons (.refl _) .nil)) (.cons (.cons (.refl _) (.cons (.refl _) (.cons (.refl _) (.cons (.close _ _ _ _) .nil)))) (.cons (.cons (.refl _) .nil) (.cons (.cons (.refl _) .nil) .nil))) ?_))
  cases h
  exact To.done hΓ (by kernel_rfl)
def ref09_Scalar (n:Nat) (a0:List UInt8) (a1:Bool):Option (S_api_Node × Bool) :=
 if (bif (bif (a0 == []) then true else (a0 == [126])) then true else (a0 == [110,117,108,108])) = true then (some ((S_api_Node.mk 0 [] [] []),true))
 else ((ref06_Scan n a0 0).bind fun r1 =>
 if (bif (r1.2.2 == 0) then (r1.2.1 == (List.length a0:Int)) else false) = true then (some ((S_api_Node.mk 1 r1.1 [] []),true))
 else (((if (a1 == true) = true then ref06_Row n a0 else some false)).bind fun r2 =>
 ((if (((!a1) == true) && ((bif a1 then r2 else false) == false)) = true then ref06_Plain n a0 else some false)).bind fun r3 =>
 if (bif (bif a1 then r2 else false) then true else (bif (!a1) then r3 else false)) = true then (some ((S_api_Node.mk 1 a0 [] []),true))
 else (some ((S_api_Node.mk 0 [] [] []),false))))
theorem ok_ref09_Scalar (n:Nat) (a0:List UInt8) (a1:Bool) (r:S_api_Node × Bool) (h:ref09_Scalar n a0 a1 = some r):CallsX Tryz.prog 98 [.str a0,vb a1] (.tup [.agg (qc9 r.1),vb r.2]):=by
 unfold ref09_Scalar at h
 refine xo Tryz.f98 rfl fun F0 w0 _=>?_
 refine Wp.seq (rg [0,1,4] [4] [(0,.str a0),(1,vb a1),(4,.own 4 0)] [(4,26,[vi 0,.str [],.val (.slice none 0 0),.val (.slice none 0 0)])] (To.thenN (Wp.seq (Wp.seq (rg [0,1,4,18] [4] [(0,.str a0),(1,vb a1),(4,.own 4 0),(18,vb (ex28 a0))] [(4,26,[vi 0,.str [],.val (.slice none 0 0),.val (.slice none 0 0)])] (To.thenN (cn h (fun h=>?_) (fun h=>?_))))))))
 ·refine Wp.seq (rg [4,5] [4] [(4,.own 4 0),(5,vb true)] [(4,26,[vi 0,.str [],.val (.slice none 0 0),.val (.slice none 0 0)])] (To.thenN (Wp.ret (To.thenR (To.weak (K':=[(4,.own 4 0),(5,vb true)]) (L':=[(4,26,[vi 0,.str [],ls [],tn8 []])]) (.cons (.refl _) (.cons (.refl _) .nil)) (.cons (.cons (.refl _) (.cons (.refl _) (.cons (.zero _ _) (.cons (.zeroT _ _ _) .nil)))) .nil) ?_)))))
  cases h
  exact To.done hΓ (by kernel_rfl)
 ·refine Wp.skip (To.thenN (Wp.seq ?_))
  obtain ⟨r1,hr1,h⟩:=bind_of h
  refine rc [] 1 [0,1,4,6,7,8] [4] [(0,.str a0),(1,vb a1),(4,.own 4 0),(6,.str r1.1),(7,vi r1.2.1),(8,vi r1.2.2)] [(4,26,[vi 0,.str [],.val (.slice none 0 0),.val (.slice none 0 0)])] (ok_ref06_Scan n a0 0 _ hr1) (To.thenN (Wp.seq (Wp.seq (rg [0,1,4,6,33] [4] [(0,.str a0),(1,vb a1),(4,.own 4 0),(6,.str r1.1),(33,vb (bif (r1.2.2 == 0) then (r1.2.1 == (List.length a0:Int)) else false))] [(4,26,[vi 0,.str [],.val (.slice none 0 0),.val (.slice none 0 0)])] (To.thenN (cn h (fun h=>?_) (fun h=>?_)))))))
  ·refine Wp.seq (rg [4,5] [4] [(4,.own 4 0),(5,vb true)] [(4,26,[vi 1,.str r1.1,.val (.slice none 0 0),.val (.slice none 0 0)])] (To.thenN (Wp.ret (To.thenR (To.weak (K':=[(4,.own 4 0),(5,vb true)]) (L':=[(4,26,[vi 1,.str r1.1,ls [],tn8 []])]) (.cons (.refl _) (.cons (.refl _) .nil)) (.cons (.cons (.refl _) (.cons (.refl _) (.cons (.zero _ _) (.cons (.zeroT _ _ _) .nil)))) .nil) ?_)))))
   cases h
   exact To.done hΓ (by kernel_rfl)
  ·refine Wp.skip (To.thenN (Wp.seq (Wp.seq ?_)))
   obtain ⟨r2,hr2,h⟩:=bind_of h
   obtain ⟨r3,hr3,h⟩:=bind_of h
   refine rr [] [(3,vb r2),(10,vb r3)] [] [0,4,48] [4] [(0,.str a0),(4,.own 4 0),(48,vb (bif (bif a1 then r2 else false) then true else (bif (!a1) then r3 else false)))] [(4,26,[vi 0,.str [],.val (.slice none 0 0),.val (.slice none 0 0)])] [((a1 == true) = true → CX Tryz.prog 118 [.str a0] (vb r2)),((((!a1) == true) && ((bif a1 then r2 else false) == false)) = true → CX Tryz.prog 38 [.str a0] (vb r3))] (AllP.cons (fun hg=>cx (ok_ref06_Row n a0 _ (if_t hg hr2))) (AllP.cons (fun hg=>cx (ok_ref06_Plain n a0 _ (if_t hg hr3))) AllP.nil)) (To.thenN (cn h (fun h=>?_) (fun h=>?_)))
   ·refine Wp.seq (rg [4,5] [4] [(4,.own 4 0),(5,vb true)] [(4,26,[vi 1,.str a0,.val (.slice none 0 0),.val (.slice none 0 0)])] (To.thenN (Wp.ret (To.thenR (To.weak (K':=[(4,.own 4 0),(5,vb true)]) (L':=[(4,26,[vi 1,.str a0,ls [],tn8 []])]) (.cons (.refl _) (.cons (.refl _) .nil)) (.cons (.cons (.refl _) (.cons (.refl _) (.cons (.zero _ _) (.cons (.zeroT _ _ _) .nil)))) .nil) ?_)))))
    cases h
    exact To.done hΓ (by kernel_rfl)
   ·refine Wp.skip (To.thenN (Wp.seq (rg [4,5] [4] [(4,.own 4 0),(5,vb false)] [(4,26,[vi 0,.str [],.val (.slice none 0 0),.val (.slice none 0 0)])] (To.thenN (Wp.ret (To.weak (K':=[(4,.own 4 0),(5,vb false)]) (L':=[(4,26,[vi 0,.str [],ls [],tn8 []])]) (.cons (.refl _) (.cons (.refl _) .nil)) (.cons (.cons (.refl _) (.cons (.refl _) (.cons (.zero _ _) (.cons (.zeroT _ _ _) .nil)))) .nil) ?_))))))
    cases h
    exact To.done hΓ (by kernel_rfl)
def ref09_value_b (R_ref09_value:(List UInt8) → Int → Option (S_api_Node × Int)) (n:Nat) (a0:List UInt8) (a1:Int):Option (S_api_Node × Int) :=
 (ref09_blanks n a0 a1).bind fun r1 =>
 if (r1 == (List.length a0:Int)) = true then (some ((S_api_Node.mk 0 [] [] []),r1))
 else (if (decide (0 ≤ r1 ∧ r1 < (List.length a0:Int))) = true then (if ((((a0)[Int.toNat r1]?.getD 0).toNat:Int) == 91) = true then ((ref09_row R_ref09_value n a0 (IntKind.wrap .i64 (r1 + 1))).bind fun r2 =>
 some (r2.1,r2.2))
 else (if (decide (0 ≤ r1 ∧ r1 < (List.length a0:Int))) = true then (if ((((a0)[Int.toNat r1]?.getD 0).toNat:Int) == 123) = true then ((ref09_pairs R_ref09_value n a0 (IntKind.wrap .i64 (r1 + 1))).bind fun r3 =>
 some (r3.1,r3.2))
 else (if (decide (0 ≤ r1 ∧ r1 < (List.length a0:Int))) = true then (if ((!(((((a0)[Int.toNat r1]?.getD 0).toNat:Int) == 34) == false) || decide (0 ≤ r1 ∧ r1 < (List.length a0:Int)))) = true then (lett ((bif ((((a0)[Int.toNat r1]?.getD 0).toNat:Int) == 34) then true else ((((a0)[Int.toNat r1]?.getD 0).toNat:Int) == 39)):Bool) fun x4 =>
 if x4 = true then ((ref06_Scan n a0 r1).bind fun r5 =>
 if (r5.2.2 != 0) = true then (some ((S_api_Node.mk 0 [] [] []),(-1)))
 else (some ((S_api_Node.mk 1 r5.1 [] []),r5.2.1)))
 else ((ref09_plain n a0 r1).bind fun r6 =>
 if (decide (0 ≤ r6 ∧ r6 ≤ (List.length a0:Int))) = true then (if (decide (0 ≤ r1 ∧ r1 ≤ r6)) = true then ((ref09_trimmed n (List.take (Int.toNat r6 - Int.toNat r1) (List.drop (Int.toNat r1) a0))).bind fun r7 =>
 (ref09_Scalar n r7 true).bind fun r8 =>
 if (!r8.2) = true then (some ((S_api_Node.mk 0 [] [] []),(-1)))
 else (some (r8.1,r6))) else none) else none)) else none) else none)) else none)) else none)
theorem ok_ref09_value_b (R_ref09_value:(List UInt8) → Int → Option (S_api_Node × Int)) (hR_ref09_value:hR28 R_ref09_value) (n:Nat) (a0:List UInt8) (a1:Int) (r:S_api_Node × Int) (h:ref09_value_b R_ref09_value n a0 a1 = some r):CallsX Tryz.prog 116 [.str a0,vi a1] (.tup [.agg (qc9 r.1),vi r.2]):=by
 unfold ref09_value_b at h
 refine xo Tryz.f116 rfl fun F0 w0 _=>?_
 refine Wp.seq (rg [0,1,4] [4] [(0,.str a0),(1,vi a1),(4,.own 4 0)] [(4,26,[vi 0,.str [],.val (.slice none 0 0),.val (.slice none 0 0)])] (To.thenN (Wp.seq ?_)))
 obtain ⟨r1,hr1,h⟩:=bind_of h
 refine rc [] 2 [0,1,4] [4] [(0,.str a0),(1,vi r1),(4,.own 4 0)] [(4,26,[vi 0,.str [],.val (.slice none 0 0),.val (.slice none 0 0)])] (ok_ref09_blanks n a0 a1 _ hr1) (To.thenN (Wp.seq (Wp.seq (rg [0,1,4,18] [4] [(0,.str a0),(1,vi r1),(4,.own 4 0),(18,vb (r1 == (List.length a0:Int)))] [(4,26,[vi 0,.str [],.val (.slice none 0 0),.val (.slice none 0 0)])] (To.thenN (cn h (fun h=>?_) (fun h=>?_)))))))
 ·refine Wp.seq (rg [4,5] [4] [(4,.own 4 0),(5,vi r1)] [(4,26,[vi 0,.str [],.val (.slice none 0 0),.val (.slice none 0 0)])] (To.thenN (Wp.ret (To.thenR (To.weak (K':=[(4,.own 4 0),(5,vi r1)]) (L':=[(4,26,[vi 0,.str [],ls [],tn8 []])]) (.cons (.refl _) (.cons (.refl _) .nil)) (.cons (.cons (.refl _) (.cons (.refl _) (.cons (.zero _ _) (.cons (.zeroT _ _ _) .nil)))) .nil) ?_)))))
  cases h
  exact To.done hΓ (by kernel_rfl)
 ·refine Wp.skip (To.thenN (Wp.seq (Wp.seq ?_)))
  obtain ⟨hc14,h⟩:=chk_of h
  refine r0 [0,1,4,24] [4] [(0,.str a0),(1,vi r1),(4,.own 4 0),(24,vb ((((a0)[Int.toNat r1]?.getD 0).toNat:Int) == 91))] [(4,26,[vi 0,.str [],.val (.slice none 0 0),.val (.slice none 0 0)])] (AllP.cons hc14 AllP.nil) (To.thenN (cn h (fun h=>?_) (fun h=>?_)))
  ·refine Wp.seq ?_
   obtain ⟨r2,hr2,h⟩:=bind_of h
   refine rc [] 3 [4,5] [4] [(4,.own 4 0),(5,vi r2.2)] [(4,26,qc9 r2.1)] (ok_ref09_row R_ref09_value hR_ref09_value n a0 (IntKind.wrap .i64 (r1 + 1)) _ hr2) (To.thenN (Wp.ret (To.thenR ?_)))
   cases h
   exact To.done hΓ (by kernel_rfl)
  ·refine Wp.skip (To.thenN (Wp.seq (Wp.seq ?_)))
   obtain ⟨hc13,h⟩:=chk_of h
   refine r0 [0,1,4,34] [4] [(0,.str a0),(1,vi r1),(4,.own 4 0),(34,vb ((((a0)[Int.toNat r1]?.getD 0).toNat:Int) == 123))] [(4,26,[vi 0,.str [],.val (.slice none 0 0),.val (.slice none 0 0)])] (AllP.cons hc13 AllP.nil) (To.thenN (cn h (fun h=>?_) (fun h=>?_)))
   ·refine Wp.seq ?_
    obtain ⟨r3,hr3,h⟩:=bind_of h
    refine rc [] 3 [4,5] [4] [(4,.own 4 0),(5,vi r3.2)] [(4,26,qc9 r3.1)] (ok_ref09_pairs R_ref09_value hR_ref09_value n a0 (IntKind.wrap .i64 (r1 + 1)) _ hr3) (To.thenN (Wp.ret (To.thenR ?_)))
    cases h
    exact To.done hΓ (by kernel_rfl)
   ·refine Wp.skip (To.thenN (Wp.seq (Wp.seq ?_)))
    obtain ⟨hc11,h⟩:=chk_of h
    obtain ⟨hc12,h⟩:=chk_of h
    obtain ⟨x4,hx4,h⟩:=lett_of h
    refine r0 [0,1,4,50] [4] [(0,.str a0),(1,vi r1),(4,.own 4 0),(50,vb (bif ((((a0)[Int.toNat r1]?.getD 0).toNat:Int) == 34) then true else ((((a0)[Int.toNat r1]?.getD 0).toNat:Int) == 39)))] [(4,26,[vi 0,.str [],.val (.slice none 0 0),.val (.slice none 0 0)])] (AllP.cons hc11 (AllP.cons hc12 AllP.nil)) (To.eq (K':=[(0,.str a0),(1,vi r1),(4,.own 4 0),(50,vb x4)]) (L':=[(4,26,[vi 0,.str [],.val (.slice none 0 0),.val (.slice none 0 0)])]) (by cases hx4; rfl) (by cases hx4; rfl) (To.thenN (cn h (fun h=>?_) (fun h=>?_))))
    ·refine Wp.seq ?_
     obtain ⟨r5,hr5,h⟩:=bind_of h
     refine rc [] 2 [4,6,7,8] [4] [(4,.own 4 0),(6,.str r5.1),(7,vi r5.2.1),(8,vi r5.2.2)] [(4,26,[vi 0,.str [],.val (.slice none 0 0),.val (.slice none 0 0)])] (ok_ref06_Scan n a0 r1 _ hr5) (To.thenN (Wp.seq (Wp.seq (rg [4,6,7,59] [4] [(4,.own 4 0),(6,.str r5.1),(7,vi r5.2.1),(59,vb (r5.2.2 != 0))] [(4,26,[vi 0,.str [],.val (.slice none 0 0),.val (.slice none 0 0)])] (To.thenN (cn h (fun h=>?_) (fun h=>?_)))))))
     ·refine Wp.seq (rg [4,5] [4] [(4,.own 4 0),(5,vi (-1))] [(4,26,[vi 0,.str [],.val (.slice none 0 0),.val (.slice none 0 0)])] (To.thenN (Wp.ret (To.thenR (To.thenR (To.weak (K':=[(4,.own 4 0),(5,vi (-1))]) (L':=[(4,26,[vi 0,.str [],ls [],tn8 []])]) (.cons (.refl _) (.cons (.refl _) .nil)) (.cons (.cons (.refl _) (.cons (.refl _) (.cons (.zero _ _) (.cons (.zeroT _ _ _) .nil)))) .nil) ?_))))))
      cases h
      exact To.done hΓ (by kernel_rfl)
     ·refine Wp.skip (To.thenN (Wp.seq (rg [4,5] [4] [(4,.own 4 0),(5,vi r5.2.1)] [(4,26,[vi 1,.str r5.1,.val (.slice none 0 0),.val (.slice none 0 0)])] (To.thenN (Wp.ret (To.thenR (To.weak (K':=[(4,.own 4 0),(5,vi r5.2.1)]) (L':=[(4,26,[vi 1,.str r5.1,ls [],tn8 []])]) (.cons (.refl _) (.cons (.refl _) .nil)) (.cons (.cons (.refl _) (.cons (.refl _) (.cons (.zero _ _) (.cons (.zeroT _ _ _) .nil)))) .nil) ?_)))))))
      cases h
      exact To.done hΓ (by kernel_rfl)
    ·refine Wp.skip (To.thenN (Wp.seq ?_))
     obtain ⟨r6,hr6,h⟩:=bind_of h
     refine rc [] 2 [0,1,4,9] [4] [(0,.str a0),(1,vi r1),(4,.own 4 0),(9,vi r6)] [(4,26,[vi 0,.str [],.val (.slice none 0 0),.val (.slice none 0 0)])] (ok_ref09_plain n a0 r1 _ hr6) (To.thenN (Wp.seq ?_))
     obtain ⟨hc9,h⟩:=chk_of h
     obtain ⟨hc10,h⟩:=chk_of h
     obtain ⟨r7,hr7,h⟩:=bind_of h
     obtain ⟨r8,hr8,h⟩:=bind_of h
     refine rr [] [(4,.str r7),(5,.tup [.agg (qc9 r8.1),vb r8.2])] [] [4,9,10,11] [4,10] [(4,.own 4 0),(9,vi r6),(10,.own 10 0),(11,vb r8.2)] [(4,26,[vi 0,.str [],.val (.slice none 0 0),.val (.slice none 0 0)]),(10,26,qc9 r8.1)] [_,_,_,_] (AllP.cons hc9 (AllP.cons hc10 (AllP.cons (c1 (ok_ref09_trimmed n (List.take (Int.toNat r6 - Int.toNat r1) (List.drop (Int.toNat r1) a0)) _ hr7)) (AllP.cons (c1 (ok_ref09_Scalar n r7 true _ hr8)) AllP.nil)))) (To.thenN (Wp.seq (Wp.seq (rg [4,9,10,77] [4,10] [(4,.own 4 0),(9,vi r6),(10,.own 10 0),(77,vb (!r8.2))] [(4,26,[vi 0,.str [],.val (.slice none 0 0),.val (.slice none 0 0)]),(10,26,qc9 r8.1)] (To.thenN (cn h (fun h=>?_) (fun h=>?_)))))))
     ·refine Wp.seq (rg [4,5] [4] [(4,.own 4 0),(5,vi (-1))] [(4,26,[vi 0,.str [],.val (.slice none 0 0),.val (.slice none 0 0)])] (To.thenN (Wp.ret (To.thenR (To.weak (K':=[(4,.own 4 0),(5,vi (-1))]) (L':=[(4,26,[vi 0,.str [],ls [],tn8 []])]) (.cons (.refl _) (.cons (.refl _) .nil)) (.cons (.cons (.refl _) (.cons (.refl _) (.cons (.zero _ _) (.cons (.zeroT _ _ _) .nil)))) .nil) ?_)))))
      cases h
      exact To.done hΓ (by kernel_rfl)
     ·refine Wp.skip (To.thenN (Wp.seq (rg [4,5] [4] [(4,.own 4 0),(5,vi r6)] [(4,26,qc9 r8.1)] (To.thenN (Wp.ret ?_)))))
      cases h
      exact To.done hΓ (by kernel_rfl)
def ref09_value:Nat → (List UInt8) → Int → Option (S_api_Node × Int)
 | 0=>fun _ _=>none
 | n + 1=>ref09_value_b (ref09_value n) n
theorem ok_ref09_value (n:Nat):∀ (a0:List UInt8) (a1:Int) (r:S_api_Node × Int),ref09_value n a0 a1 = some r → CallsX Tryz.prog 116 [.str a0,vi a1] (.tup [.agg (qc9 r.1),vi r.2]):=by
 induction n with
 | zero=>intro a0 a1 r h; cases h
 | succ n ih=>exact fun a0 a1 r h=>ok_ref09_value_b (ref09_value n) ih n a0 a1 r h
def ref02_Sorted_j3 (n:Nat) (v0:List (List UInt8)) (v3:List (List UInt8)) (v4:Int) (v5:Int):Option (Int) :=
 if ((!(((List.length v3:Int) == 0) == false) || decide (0 ≤ v5 ∧ v5 < (List.length v0:Int)))) = true then (if ((!(((List.length v3:Int) == 0) == false) || decide (0 ≤ (IntKind.wrap .i64 ((List.length v3:Int) - 1)) ∧ (IntKind.wrap .i64 ((List.length v3:Int) - 1)) < (List.length v3:Int)))) = true then (if ((!(((decide (v4 < 0)) == false) && ((bif ((List.length v3:Int) == 0) then true else (!(Op.bytesLess ((v0)[Int.toNat v5]?.getD []) ((v3)[Int.toNat (IntKind.wrap .i64 ((List.length v3:Int) - 1))]?.getD []) || ((v0)[Int.toNat v5]?.getD []) == ((v3)[Int.toNat (IntKind.wrap .i64 ((List.length v3:Int) - 1))]?.getD [])))) == true)) || decide (0 ≤ v5 ∧ v5 < (List.length v0:Int)))) = true then (if ((!(((decide (v4 < 0)) == false) && ((bif ((List.length v3:Int) == 0) then true else (!(Op.bytesLess ((v0)[Int.toNat v5]?.getD []) ((v3)[Int.toNat (IntKind.wrap .i64 ((List.length v3:Int) - 1))]?.getD []) || ((v0)[Int.toNat v5]?.getD []) == ((v3)[Int.toNat (IntKind.wrap .i64 ((List.length v3:Int) - 1))]?.getD [])))) == true)) || decide (0 ≤ v4 ∧ v4 < (List.length v0:Int)))) = true then (lett ((bif (bif ((List.length v3:Int) == 0) then true else (!(Op.bytesLess ((v0)[Int.toNat v5]?.getD []) ((v3)[Int.toNat (IntKind.wrap .i64 ((List.length v3:Int) - 1))]?.getD []) || ((v0)[Int.toNat v5]?.getD []) == ((v3)[Int.toNat (IntKind.wrap .i64 ((List.length v3:Int) - 1))]?.getD [])))) then (bif (decide (v4 < 0)) then true else (Op.bytesLess ((v0)[Int.toNat v5]?.getD []) ((v0)[Int.toNat v4]?.getD []))) else false):Bool) fun x1 =>
 if x1 = true then some v5
 else some v4) else none) else none) else none) else none
abbrev ex72 (x0:List (List UInt8)) (x1:List (List UInt8)) (x2:Int):=(bif ((List.length x0:Int) == 0) then true else (!(Op.bytesLess ((x1)[Int.toNat x2]?.getD []) ((x0)[Int.toNat (IntKind.wrap .i64 ((List.length x0:Int) - 1))]?.getD []) || ((x1)[Int.toNat x2]?.getD []) == ((x0)[Int.toNat (IntKind.wrap .i64 ((List.length x0:Int) - 1))]?.getD []))))
theorem ok_ref02_Sorted_j3 (n:Nat) (v0:List (List UInt8)) (v3:List (List UInt8)) (v4:Int) (v5:Int) (o:Int) (h:ref02_Sorted_j3 n v0 v3 v4 v5 = some o) {F0:Fz} {w0:Pt Tryz.prog} {Q:Exit → Act → World → Prop} (hQ:To 55 F0 w0 [(0,ls v0),(3,.row 1003),(4,vi o),(5,vi v5)] [(1003,9,[rc19 v3])] .normal Q):Wp Tryz.prog 55 F0 w0 [(0,ls v0),(3,.row 1003),(4,vi v4),(5,vi v5)] [(1003,9,[rc19 v3])] (cA (cB (cI (cI (cB (cA (cB (cI (cI (cI (cB (cB (cF Tryz.f77))))))))))))) Q:=by
 unfold ref02_Sorted_j3 at h
 refine Wp.block (Wp.seq ?_)
 obtain ⟨hc2,h⟩:=chk_of h
 obtain ⟨hc3,h⟩:=chk_of h
 obtain ⟨hc4,h⟩:=chk_of h
 obtain ⟨hc5,h⟩:=chk_of h
 obtain ⟨x1,hx1,h⟩:=lett_of h
 refine Wp.regionD hm hΓ [] [0,3,4,5,43] [1003] (K':=[(0,ls v0),(3,.row 1003),(4,vi v4),(5,vi v5),(43,vb (bif (ex72 v3 v0 v5) then (bif (decide (v4 < 0)) then true else (Op.bytesLess ((v0)[Int.toNat v5]?.getD []) ((v0)[Int.toNat v4]?.getD []))) else false))]) (L':=[(1003,9,[rc19 v3])]) (ob:=[(!(((List.length v3:Int) == 0) == false) || decide (ex45 v5 v0)) = true,(!(((List.length v3:Int) == 0) == false) || decide (0 ≤ (IntKind.wrap .i64 ((List.length v3:Int) - 1)) ∧ (IntKind.wrap .i64 ((List.length v3:Int) - 1)) < (List.length v3:Int))) = true,(!(((List.length v3:Int) == 0) == false) || decide (0 ≤ (IntKind.wrap .i64 ((List.length v3:Int) - 1)) ∧ (IntKind.wrap .i64 ((List.length v3:Int) - 1)) < (List.length v3:Int))) = true,(!(((decide (v4 < 0)) == false) && ((ex72 v3 v0 v5) == true)) || decide (ex45 v5 v0)) = true,(!(((decide (v4 < 0)) == false) && ((ex72 v3 v0 v5) == true)) || decide (ex45 v4 v0)) = true]) (by kernel_rfl) (AllP.cons hc2 (AllP.cons hc3 (AllP.cons hc3 (AllP.cons hc4 (AllP.cons hc5 AllP.nil))))) (To.eq (K':=[(0,ls v0),(3,.row 1003),(4,vi v4),(5,vi v5),(43,vb x1)]) (L':=[(1003,9,[rc19 v3])]) (by cases hx1; rfl) (by cases hx1; rfl) (To.thenN (cn h (fun h=>?_) (fun h=>?_))))
 ·refine rg [0,3,4,5] [1003] [(0,ls v0),(3,.row 1003),(4,vi v5),(5,vi v5)] [(1003,9,[rc19 v3])] (To.blockN ?_)
  cases h
  exact hQ
 ·refine Wp.skip (To.blockN (kt [0,3,4,5] [1003] [(0,ls v0),(3,.row 1003),(4,vi v4),(5,vi v5)] [(1003,9,[rc19 v3])] ?_))
  cases h
  exact hQ
def ref02_Sorted_l2 (n:Nat) (v0:List (List UInt8)) (v3:List (List UInt8)):Nat → Int → Int → Option (Int)
 | 0,_,_=>none
 | k + 1,v4,v5=>if (decide (v5 < (List.length v0:Int))) = true then ((ref02_Sorted_j3 n v0 v3 v4 v5).bind fun o1 =>
 ref02_Sorted_l2 n v0 v3 k o1 (IntKind.wrap .i64 (v5 + 1)))
 else some v4
theorem ok_ref02_Sorted_l2 (n:Nat) (v0:List (List UInt8)) (v3:List (List UInt8)) {F0:Fz} {w0:Pt Tryz.prog} {Q:Exit → Act → World → Prop} (k:Nat):∀ (v4:Int) (v5:Int) (o:Int),ref02_Sorted_l2 n v0 v3 k v4 v5 = some o → To 55 F0 w0 [(0,ls v0),(3,.row 1003),(4,vi o)] [(1003,9,[rc19 v3])] (.exit 2) Q → WL Tryz.prog 55 F0 w0 [(0,ls v0),(3,.row 1003),(4,vi v4),(5,vi v5)] [(1003,9,[rc19 v3])] (cI (cI (cB (cA (cB (cI (cI (cI (cB (cB (cF Tryz.f77))))))))))) Q:=by
 induction k with
 | zero=>intro v4 v5 o h; cases h
 | succ k ih =>
  intro v4 v5 o h hQ
  rw [ref02_Sorted_l2] at h
  refine WL.round (Wp.seq (Wp.seq (rg [0,3,4,5,10] [1003] [(0,ls v0),(3,.row 1003),(4,vi v4),(5,vi v5),(10,vb (decide (v5 < (List.length v0:Int))))] [(1003,9,[rc19 v3])] (To.thenN (cn h (fun h=>?_) (fun h=>?_))))))
  ·refine Wp.skip (To.thenN (Wp.seq ?_))
   obtain ⟨o1,ho1,h⟩:=bind_of h
   refine kw [0,3,4,5] [1003] [(0,ls v0),(3,.row 1003),(4,vi v4),(5,vi v5)] [(1003,9,[rc19 v3])] (ok_ref02_Sorted_j3 n v0 v3 v4 v5 o1 ho1 (To.thenN (rg [0,3,4,5] [1003] [(0,ls v0),(3,.row 1003),(4,vi o1),(ex12 v5)] [(1003,9,[rc19 v3])] (kt [0,3,4,5] [1003] [(0,ls v0),(3,.row 1003),(4,vi o1),(ex12 v5)] [(1003,9,[rc19 v3])] (To.again ?_)))))
   exact ih o1 (IntKind.wrap .i64 (v5 + 1)) _ h hQ
  ·refine Wp.exit (To.thenX (To.thenX (kt [0,3,4] [1003] [(0,ls v0),(3,.row 1003),(4,vi v4)] [(1003,9,[rc19 v3])] ?_)))
   cases h
   exact hQ
def ref02_Sorted_l1 (n:Nat) (v0:List (List UInt8)):Nat → (List (List UInt8)) → Option ((List (List UInt8)))
 | 0,_=>none
 | k + 1,v3=>(ref02_Sorted_l2 n v0 v3 n (-1) 0).bind fun o1 =>
 if (decide (o1 < 0)) = true then some v3
 else (if (decide (0 ≤ o1 ∧ o1 < (List.length v0:Int))) = true then (if (decide ((List.length v3 + List.length ([((v0)[Int.toNat o1]?.getD [])]:List (List UInt8))) * (16 + 1) ≤ limit)) = true then (ref02_Sorted_l1 n v0 k (v3 ++ ([((v0)[Int.toNat o1]?.getD [])]:List (List UInt8)))) else none) else none)
theorem ok_ref02_Sorted_l1 (n:Nat) (v0:List (List UInt8)) {F0:Fz} {w0:Pt Tryz.prog} {Q:Exit → Act → World → Prop} (k:Nat):∀ (v3:List (List UInt8)) (o:(List (List UInt8))),ref02_Sorted_l1 n v0 k v3 = some o → To 55 F0 w0 [(2,.row 1002)] [(1002,9,[rc19 o])] .ret Q → WL Tryz.prog 55 F0 w0 [(0,ls v0),(3,.row 1003)] [(1003,9,[rc19 v3])] (cI (cI (cB (cB (cF Tryz.f77))))) Q:=by
 induction k with
 | zero=>intro v3 o h; cases h
 | succ k ih =>
  intro v3 o h hQ
  rw [ref02_Sorted_l1] at h
  refine WL.round (Wp.block (Wp.seq (rg [0,3,4] [1003] [(0,ls v0),(3,.row 1003),(4,vi (-1))] [(1003,9,[rc19 v3])] (To.thenN (Wp.seq (Wp.seq (rg [0,3,4,5] [1003] [(0,ls v0),(3,.row 1003),(4,vi (-1)),(5,vi 0)] [(1003,9,[rc19 v3])] (To.thenN (Wp.block ?_)))))))))
  obtain ⟨o1,ho1,h⟩:=bind_of h
  refine kw [0,3,4,5] [1003] [(0,ls v0),(3,.row 1003),(4,vi (-1)),(5,vi 0)] [(1003,9,[rc19 v3])] (Wp.loopL (ok_ref02_Sorted_l2 n v0 v3 n (-1) 0 o1 ho1 (To.blockX (To.thenN (Wp.seq (Wp.seq (rg [0,3,4,46] [1003] [(0,ls v0),(3,.row 1003),(4,vi o1),(46,vb (decide (o1 < 0)))] [(1003,9,[rc19 v3])] (To.thenN (cn h (fun h=>?_) (fun h=>?_))))))))))
  ·refine Wp.seq (rg [2] [1003] [(2,.row 1003)] [(1003,9,[rc19 v3])] (To.thenN (Wp.ret (To.thenR (To.blockR (To.thenR (nt [2] [1003] [(1003,1002)] [2] [1002] [(2,.row 1002)] [(1002,9,[rc19 v3])] ?_)))))))
   cases h
   exact hQ
  ·refine Wp.skip (To.thenN ?_)
   obtain ⟨hc2,h⟩:=chk_of h
   obtain ⟨hc3,h⟩:=chk_of h
   refine rr [] [(5,ls ([((v0)[Int.toNat o1]?.getD [])])),(6,ls (v3 ++ ([((v0)[Int.toNat o1]?.getD [])]:List (List UInt8))))] [] [0,3] [54] [(0,ls v0),(3,.row 54)] [(54,9,[rc19 (v3 ++ ([((v0)[Int.toNat o1]?.getD [])]:List (List UInt8)))])] [_,(MkOb 1 [.str ((v0)[Int.toNat o1]?.getD [])] 1 (ls ([((v0)[Int.toNat o1]?.getD [])])) ∧ GoodR (ls ([((v0)[Int.toNat o1]?.getD [])]))),_,(AppOb [] E_string v3 (List.flatMap E_string ([((v0)[Int.toNat o1]?.getD [])]:List (List UInt8))) (List.length ([((v0)[Int.toNat o1]?.getD [])]:List (List UInt8))) (ls (v3 ++ ([((v0)[Int.toNat o1]?.getD [])]:List (List UInt8)))) ∧ GoodR (ls (v3 ++ ([((v0)[Int.toNat o1]?.getD [])]:List (List UInt8)))))] (AllP.cons hc2 (AllP.cons (mkOb (by kernel_rfl) rfl (by kernel_rfl) (good_E_string _)) (AllP.cons hc3 (AllP.cons (appOb rfl rfl (good_E_string _)) AllP.nil)))) (To.blockN (nt [0,3] [54] [(54,1003)] [0,3] [1003] [(0,ls v0),(3,.row 1003)] [(1003,9,[rc19 (v3 ++ ([((v0)[Int.toNat o1]?.getD [])]:List (List UInt8)))])] (To.again ?_)))
   exact ih (v3 ++ ([((v0)[Int.toNat o1]?.getD [])]:List (List UInt8))) _ h hQ
def ref02_Sorted (n:Nat) (a0:List (List UInt8)):Option ((List (List UInt8))) :=
 (ref02_Sorted_l1 n a0 n ([]:List (List UInt8))).bind fun o1 =>
 some o1
theorem ok_ref02_Sorted (n:Nat) (a0:List (List UInt8)) (r:(List (List UInt8))) (h:ref02_Sorted n a0 = some r):CallsX Tryz.prog 77 [ls a0] (ls r):=by
 unfold ref02_Sorted at h
 refine xo Tryz.f77 rfl fun F0 w0 _=>?_
 refine Wp.seq (rg [0] [] [(0,ls a0)] [] (To.thenN (Wp.seq (rr [] [(0,ls [])] [] [0,3] [6] [(0,ls a0),(3,.row 6)] [(6,9,[rc19 []])] [(MkOb 1 [] 0 (ls []) ∧ GoodR (ls []))] (AllP.cons (mkOb (by kernel_rfl) rfl (by kernel_rfl) (good_E_string _)) AllP.nil) (To.thenN (Wp.block ?_))))))
 obtain ⟨o1,ho1,h⟩:=bind_of h
 refine nw [0,3] [6] [(6,1003)] [0,3] [1003] [(0,ls a0),(3,.row 1003)] [(1003,9,[rc19 []])] (Wp.loopL (ok_ref02_Sorted_l1 n a0 n ([]:List (List UInt8)) o1 ho1 (To.blockR (kt [2] [1002] [(2,.row 1002)] [(1002,9,[rc19 o1])] (To.pre (St.settle (ks:=[1002]) (kk:=[2]) (kl:=[1002]) (K':=[(2,.row 1002)]) (L':=[(1002,9,[rc21 o1])]) (by kernel_rfl)) (To.pre (St.sealK [2] (K':=[(2,ls o1)]) (by kernel_rfl)) ?_))))))
 cases h
 exact To.done hΓ (by kernel_rfl)
def ref08_Left_l1 (R_ref08_Left:S_api_Node → Int → Int → Option (Int)) (n:Nat) (v1:Int) (b3:S_api_Node):Nat → Int → Int → Option (Sum (Int) (Int))
 | 0,_,_=>none
 | k + 1,v2,v7=>if (decide (v7 < (List.length b3.f_Kids:Int))) = true then (if (decide (0 ≤ v7 ∧ v7 < (List.length b3.f_Kids:Int))) = true then ((R_ref08_Left ((b3.f_Kids)[Int.toNat v7]?.getD (S_api_Node.mk 0 [] [] [])) (IntKind.wrap .i64 (v1 + 1)) v2).bind fun r5 =>
 if (decide (r5 < 0)) = true then (some (.inr (-1)))
 else (ref08_Left_l1 R_ref08_Left n v1 b3 k r5 (IntKind.wrap .i64 (v7 + 1)))) else none)
 else (some (.inl v2))
abbrev hR29 (R_ref08_Left:S_api_Node → Int → Int → Option (Int)):Prop:=∀ (a0:S_api_Node) (a1:Int) (a2:Int) (r:Int),R_ref08_Left a0 a1 a2 = some r → CallsX Tryz.prog 40 [.agg [vi a0.f_Kind,.str a0.f_Text,ls a0.f_Keys,tn8 a0.f_Kids],vi a1,vi a2] (vi r)
abbrev ex73 (x0:S_api_Node) (x1:Int):=((x0.f_Kids)[Int.toNat x1]?.getD zx7)
theorem ok_ref08_Left_l1 (R_ref08_Left:S_api_Node → Int → Int → Option (Int)) (hR_ref08_Left:hR29 R_ref08_Left) (n:Nat) (v1:Int) (b3:S_api_Node) {F0:Fz} {w0:Pt Tryz.prog} {Q:Exit → Act → World → Prop} (k:Nat):∀ (v2:Int) (v7:Int) (o:Sum (Int) (Int)),ref08_Left_l1 R_ref08_Left n v1 b3 k v2 v7 = some o → (Sum.elim (fun s=>To 105 F0 w0 [(2,vi s)] [] (.exit 0) Q) (fun s=>To 105 F0 w0 [(6,vi s)] [] .ret Q)) o → WL Tryz.prog 105 F0 w0 [(1,vi v1),(2,vi v2),(3,.own 3 0),(7,vi v7)] [(3,26,qc9 b3)] (cI (cI (cB (cA (cB (cB (cB (cB (cB (cF Tryz.f40)))))))))) Q:=by
 induction k with
 | zero=>intro v2 v7 o h; cases h
 | succ k ih =>
  intro v2 v7 o h hQ
  rw [ref08_Left_l1] at h
  refine WL.round (Wp.seq (Wp.seq (rg [1,2,3,7,90] [3] [(1,vi v1),(2,vi v2),(3,.own 3 0),(7,vi v7),(90,vb (decide (v7 < (List.length b3.f_Kids:Int))))] [(3,26,qc9 b3)] (To.thenN (cn h (fun h=>?_) (fun h=>?_))))))
  ·refine Wp.skip (To.thenN (Wp.seq (Wp.block (Wp.seq ?_))))
   obtain ⟨hc6,h⟩:=chk_of h
   obtain ⟨r5,hr5,h⟩:=bind_of h
   refine rr [] [(8,vi r5)] [] [1,2,3,7] [3] [(1,vi v1),(2,vi r5),(3,.own 3 0),(7,vi v7)] [(3,26,qc9 b3)] [_,(true = true → CX Tryz.prog 40 [.agg [vi ((ex73 b3 v7).f_Kind),.str ((ex73 b3 v7).f_Text),ls ((ex73 b3 v7).f_Keys),tn8 ((ex73 b3 v7).f_Kids)],vi (IntKind.wrap .i64 (v1 + 1)),vi v2] (vi r5))] (AllP.cons hc6 (AllP.cons (fun _=>cx (hR_ref08_Left (ex73 b3 v7) (IntKind.wrap .i64 (v1 + 1)) v2 _ hr5)) AllP.nil)) (To.thenN (Wp.seq (rg [1,2,3,7,103] [3] [(1,vi v1),(2,vi r5),(3,.own 3 0),(7,vi v7),(103,vb (decide (r5 < 0)))] [(3,26,qc9 b3)] (To.thenN (cn h (fun h=>?_) (fun h=>?_))))))
   ·refine Wp.seq (rg [6] [] [(6,vi (-1))] [] (To.thenN (Wp.ret (To.blockR (To.thenR (To.thenR ?_))))))
    cases h
    exact hQ
   ·refine Wp.skip (To.blockN (To.thenN (rg [1,2,3,7] [3] [(1,vi v1),(2,vi r5),(3,.own 3 0),(7,vi (IntKind.wrap .i64 (v7 + 1)))] [(3,26,qc9 b3)] (kt [1,2,3,7] [3] [(1,vi v1),(2,vi r5),(3,.own 3 0),(7,vi (IntKind.wrap .i64 (v7 + 1)))] [(3,26,qc9 b3)] (To.again ?_)))))
    exact ih r5 (IntKind.wrap .i64 (v7 + 1)) _ h hQ
  ·refine Wp.exit (To.thenX (To.thenX (kt [2] [] [(2,vi v2)] [] ?_)))
   cases h
   exact hQ
def ref08_Left_b (R_ref08_Left:S_api_Node → Int → Int → Option (Int)) (n:Nat) (a0:S_api_Node) (a1:Int) (a2:Int):Option (Int) :=
 lett ((bif (bif (bif (decide ((IntKind.wrap .i64 (a2 - 1)) < 0)) then true else (decide (a1 > 12))) then true else (decide (a0.f_Kind < 0))) then true else (decide (a0.f_Kind > 3))):Bool) fun x1 =>
 if x1 = true then (some (-1))
 else (lett ((bif (bif (bif (a0.f_Kind != 1) then (decide ((List.length a0.f_Text:Int) > 0)) else false) then true else (bif (a0.f_Kind != 3) then (decide ((List.length a0.f_Keys:Int) > 0)) else false)) then true else (bif (decide (a0.f_Kind < 2)) then (decide ((List.length a0.f_Kids:Int) > 0)) else false)):Bool) fun x2 =>
 if x2 = true then (some (-1))
 else (((if (((bif ((List.length a0.f_Keys:Int) != (List.length a0.f_Kids:Int)) then true else (decide ((List.length a0.f_Kids:Int) > (IntKind.wrap .i64 (a2 - 1))))) == false) && ((a0.f_Kind == 3) == true)) = true then ref02_Sorted n a0.f_Keys else some [])).bind fun r3 =>
 lett ((bif (a0.f_Kind == 3) then (bif (bif ((List.length a0.f_Keys:Int) != (List.length a0.f_Kids:Int)) then true else (decide ((List.length a0.f_Kids:Int) > (IntKind.wrap .i64 (a2 - 1))))) then true else ((List.length r3:Int) != (List.length a0.f_Keys:Int))) else false):Bool) fun x4 =>
 if x4 = true then (some (-1))
 else ((ref08_Left_l1 R_ref08_Left n a1 a0 n (IntKind.wrap .i64 (a2 - 1)) 0).bind fun o5 =>
 (Sum.elim (fun o5=>some o5) (fun o5=>some o5)) o5)))
abbrev ex74 (x0:Int):Nat × D:=(2,vi (IntKind.wrap .i64 (x0 - 1)))
theorem ok_ref08_Left_b (R_ref08_Left:S_api_Node → Int → Int → Option (Int)) (hR_ref08_Left:hR29 R_ref08_Left) (n:Nat) (a0:S_api_Node) (a1:Int) (a2:Int) (r:Int) (h:ref08_Left_b R_ref08_Left n a0 a1 a2 = some r):CallsX Tryz.prog 40 [.agg (qc9 a0),vi a1,vi a2] (vi r):=by
 unfold ref08_Left_b at h
 refine xo Tryz.f40 rfl fun F0 w0 _=>?_
 refine Wp.seq (rg [1,2,3] [3] [(1,vi a1),(2,vi a2),(3,.own 3 0)] [(3,26,qc9 a0)] (To.thenN (Wp.seq (rg [1,2,3] [3] [(1,vi a1),(ex74 a2),(3,.own 3 0)] [(3,26,qc9 a0)] (To.thenN (Wp.seq (Wp.seq ?_)))))))
 obtain ⟨x1,hx1,h⟩:=lett_of h
 refine rg [1,2,3,25] [3] [(1,vi a1),(ex74 a2),(3,.own 3 0),(25,vb (bif (bif (bif (decide ((IntKind.wrap .i64 (a2 - 1)) < 0)) then true else (decide (a1 > 12))) then true else (decide (a0.f_Kind < 0))) then true else (decide (a0.f_Kind > 3))))] [(3,26,qc9 a0)] (To.eq (K':=[(1,vi a1),(ex74 a2),(3,.own 3 0),(25,vb x1)]) (L':=[(3,26,qc9 a0)]) (by cases hx1; rfl) (by cases hx1; rfl) (To.thenN (cn h (fun h=>?_) (fun h=>?_))))
 ·refine Wp.seq (rg [6] [] [(6,vi (-1))] [] (To.thenN (Wp.ret (To.thenR ?_))))
  cases h
  exact To.done hΓ (by kernel_rfl)
 ·refine Wp.skip (To.thenN (Wp.seq (Wp.seq ?_)))
  obtain ⟨x2,hx2,h⟩:=lett_of h
  refine rg [1,2,3,56] [3] [(1,vi a1),(ex74 a2),(3,.own 3 0),(56,vb (bif (bif (bif (a0.f_Kind != 1) then (decide ((List.length a0.f_Text:Int) > 0)) else false) then true else (bif (a0.f_Kind != 3) then (decide ((List.length a0.f_Keys:Int) > 0)) else false)) then true else (bif (decide (a0.f_Kind < 2)) then (decide ((List.length a0.f_Kids:Int) > 0)) else false)))] [(3,26,qc9 a0)] (To.eq (K':=[(1,vi a1),(ex74 a2),(3,.own 3 0),(56,vb x2)]) (L':=[(3,26,qc9 a0)]) (by cases hx2; rfl) (by cases hx2; rfl) (To.thenN (cn h (fun h=>?_) (fun h=>?_))))
  ·refine Wp.seq (rg [6] [] [(6,vi (-1))] [] (To.thenN (Wp.ret (To.thenR ?_))))
   cases h
   exact To.done hΓ (by kernel_rfl)
  ·refine Wp.skip (To.thenN (Wp.seq (Wp.seq ?_)))
   obtain ⟨r3,hr3,h⟩:=bind_of h
   obtain ⟨x4,hx4,h⟩:=lett_of h
   refine Wp.regionD hm hΓ [(21,ls r3)] [1,2,3,85] [3] (K':=[(1,vi a1),(ex74 a2),(3,.own 3 0),(85,vb (bif (a0.f_Kind == 3) then (bif (bif (ex54 a0) then true else (decide ((List.length a0.f_Kids:Int) > (IntKind.wrap .i64 (a2 - 1))))) then true else ((List.length r3:Int) != (List.length a0.f_Keys:Int))) else false))]) (L':=[(3,26,qc9 a0)]) (ob:=[((((bif (ex54 a0) then true else (decide ((List.length a0.f_Kids:Int) > (IntKind.wrap .i64 (a2 - 1))))) == false) && ((a0.f_Kind == 3) == true)) = true → CX Tryz.prog 77 [ls a0.f_Keys] (ls r3))]) (by kernel_rfl) (AllP.cons (fun hg=>cx (ok_ref02_Sorted n a0.f_Keys _ (if_t hg hr3))) AllP.nil) (To.eq (K':=[(1,vi a1),(ex74 a2),(3,.own 3 0),(85,vb x4)]) (L':=[(3,26,qc9 a0)]) (by cases hx4; rfl) (by cases hx4; rfl) (To.thenN (cn h (fun h=>?_) (fun h=>?_))))
   ·refine Wp.seq (rg [6] [] [(6,vi (-1))] [] (To.thenN (Wp.ret (To.thenR ?_))))
    cases h
    exact To.done hΓ (by kernel_rfl)
   ·refine Wp.skip (To.thenN (Wp.seq (Wp.seq (rg [1,2,3,7] [3] [(1,vi a1),(ex74 a2),(3,.own 3 0),(7,vi 0)] [(3,26,qc9 a0)] (To.thenN (Wp.block ?_))))))
    obtain ⟨o5,ho5,h⟩:=bind_of h
    refine kw [1,2,3,7] [3] [(1,vi a1),(ex74 a2),(3,.own 3 0),(7,vi 0)] [(3,26,qc9 a0)] (Wp.loopL (ok_ref08_Left_l1 R_ref08_Left hR_ref08_Left n a1 a0 n (IntKind.wrap .i64 (a2 - 1)) 0 o5 ho5 ?_))
    rcases o5 with o5 | o5
    ·replace h:=sum_l h
     refine To.blockX (To.thenN (Wp.seq (rg [6] [] [(6,vi o5)] [] (To.thenN (Wp.ret ?_)))))
     cases h
     exact To.done hΓ (by kernel_rfl)
    ·replace h:=sum_r h
     refine To.blockR (To.thenR ?_)
     cases h
     exact To.done hΓ (by kernel_rfl)
def ref08_Left:Nat → S_api_Node → Int → Int → Option (Int)
 | 0=>fun _ _ _=>none
 | n + 1=>ref08_Left_b (ref08_Left n) n
theorem ok_ref08_Left (n:Nat):∀ (a0:S_api_Node) (a1:Int) (a2:Int) (r:Int),ref08_Left n a0 a1 a2 = some r → CallsX Tryz.prog 40 [.agg (qc9 a0),vi a1,vi a2] (vi r):=by
 induction n with
 | zero=>intro a0 a1 a2 r h; cases h
 | succ n ih=>exact fun a0 a1 a2 r h=>ok_ref08_Left_b (ref08_Left n) ih n a0 a1 a2 r h
def ref08_Right (n:Nat) (a0:S_api_Node):Option (Bool) :=
 (ref08_Left n a0 1 2000).bind fun r1 =>
 some (decide (r1 ≥ 0))
theorem ok_ref08_Right (n:Nat) (a0:S_api_Node) (r:Bool) (h:ref08_Right n a0 = some r):CallsX Tryz.prog 29 [.agg (qc9 a0)] (vb r):=by
 unfold ref08_Right at h
 refine xo Tryz.f29 rfl fun F0 w0 _=>?_
 refine Wp.seq (rg [1] [1] [(1,.own 1 0)] [(1,26,qc9 a0)] (To.thenN (Wp.seq ?_)))
 obtain ⟨r1,hr1,h⟩:=bind_of h
 refine rc [] 1 [2] [] [(2,vb (decide (r1 ≥ 0)))] [] (ok_ref08_Left n a0 1 2000 _ hr1) (To.thenN (Wp.ret ?_))
 cases h
 exact To.done hΓ (by kernel_rfl)
def ref09_Parse (n:Nat) (a0:List UInt8):Option (S_api_Node × Int) :=
 (ref09_value n a0 0).bind fun r1 =>
 ((if ((decide (r1.2 < 0)) == false) = true then ref09_blanks n a0 r1.2 else some 0)).bind fun r2 =>
 if (bif (decide (r1.2 < 0)) then true else (decide (r2 < (List.length a0:Int)))) = true then (some ((S_api_Node.mk 0 [] [] []),3))
 else ((ref08_Right n r1.1).bind fun r3 =>
 if (!r3) = true then (some ((S_api_Node.mk 0 [] [] []),9))
 else (some (r1.1,0)))
theorem ok_ref09_Parse (n:Nat) (a0:List UInt8) (r:S_api_Node × Int) (h:ref09_Parse n a0 = some r):CallsX Tryz.prog 97 [.str a0] (.tup [.agg (qc9 r.1),vi r.2]):=by
 unfold ref09_Parse at h
 refine xo Tryz.f97 rfl fun F0 w0 _=>?_
 refine Wp.seq (rg [0,2] [2] [(0,.str a0),(2,.own 2 0)] [(2,26,[vi 0,.str [],.val (.slice none 0 0),.val (.slice none 0 0)])] (To.thenN (Wp.seq ?_)))
 obtain ⟨r1,hr1,h⟩:=bind_of h
 refine rc [] 1 [0,2,4,5] [2,4] [(0,.str a0),(2,.own 2 0),(4,.own 4 0),(5,vi r1.2)] [(2,26,[vi 0,.str [],.val (.slice none 0 0),.val (.slice none 0 0)]),(4,26,qc9 r1.1)] (ok_ref09_value n a0 0 _ hr1) (To.thenN (Wp.seq (Wp.seq ?_)))
 obtain ⟨r2,hr2,h⟩:=bind_of h
 refine rr [] [(5,vi r2)] [] [2,4,20] [2,4] [(2,.own 2 0),(4,.own 4 0),(20,vb (bif (decide (r1.2 < 0)) then true else (decide (r2 < (List.length a0:Int)))))] [(2,26,[vi 0,.str [],.val (.slice none 0 0),.val (.slice none 0 0)]),(4,26,qc9 r1.1)] [(((decide (r1.2 < 0)) == false) = true → CX Tryz.prog 117 [.str a0,vi r1.2] (vi r2))] (AllP.cons (fun hg=>cx (ok_ref09_blanks n a0 r1.2 _ (if_t hg hr2))) AllP.nil) (To.thenN (cn h (fun h=>?_) (fun h=>?_)))
 ·refine Wp.seq (rg [2,3] [2] [(2,.own 2 0),(3,vi 3)] [(2,26,[vi 0,.str [],.val (.slice none 0 0),.val (.slice none 0 0)])] (To.thenN (Wp.ret (To.thenR (To.weak (K':=[(2,.own 2 0),(3,vi 3)]) (L':=[(2,26,[vi 0,.str [],ls [],tn8 []])]) (.cons (.refl _) (.cons (.refl _) .nil)) (.cons (.cons (.refl _) (.cons (.refl _) (.cons (.zero _ _) (.cons (.zeroT _ _ _) .nil)))) .nil) ?_)))))
  cases h
  exact To.done hΓ (by kernel_rfl)
 ·refine Wp.skip (To.thenN (Wp.seq (Wp.seq ?_)))
  obtain ⟨r3,hr3,h⟩:=bind_of h
  refine rc [] 1 [2,4,24] [2,4] [(2,.own 2 0),(4,.own 4 0),(24,vb (!r3))] [(2,26,[vi 0,.str [],.val (.slice none 0 0),.val (.slice none 0 0)]),(4,26,qc9 r1.1)] (ok_ref08_Right n r1.1 _ hr3) (To.thenN (cn h (fun h=>?_) (fun h=>?_)))
  ·refine Wp.seq (rg [2,3] [2] [(2,.own 2 0),(3,vi 9)] [(2,26,[vi 0,.str [],.val (.slice none 0 0),.val (.slice none 0 0)])] (To.thenN (Wp.ret (To.thenR (To.weak (K':=[(2,.own 2 0),(3,vi 9)]) (L':=[(2,26,[vi 0,.str [],ls [],tn8 []])]) (.cons (.refl _) (.cons (.refl _) .nil)) (.cons (.cons (.refl _) (.cons (.refl _) (.cons (.zero _ _) (.cons (.zeroT _ _ _) .nil)))) .nil) ?_)))))
   cases h
   exact To.done hΓ (by kernel_rfl)
  ·refine Wp.skip (To.thenN (Wp.seq (rg [2,3] [2] [(2,.own 2 0),(3,vi 0)] [(2,26,qc9 r1.1)] (To.thenN (Wp.ret ?_)))))
   cases h
   exact To.done hΓ (by kernel_rfl)
def ref10_value (n:Nat) (a0:List UInt8) (a1:Int) (a2:Int):Option (S_ref10_Found) :=
 if ((!((decide ((List.length a0:Int) > 0)) == true) || decide (0 ≤ (0:Int) ∧ (0:Int) < (List.length a0:Int)))) = true then (if ((!((((((a0)[Int.toNat 0]?.getD 0).toNat:Int) == 91) == false) && ((decide ((List.length a0:Int) > 0)) == true)) || decide (0 ≤ (0:Int) ∧ (0:Int) < (List.length a0:Int)))) = true then (lett ((bif (decide ((List.length a0:Int) > 0)) then (bif ((((a0)[Int.toNat 0]?.getD 0).toNat:Int) == 91) then true else ((((a0)[Int.toNat 0]?.getD 0).toNat:Int) == 123)) else false):Bool) fun x1 =>
 if x1 = true then ((ref09_Parse n a0).bind fun r2 =>
 if (r2.2 != 0) = true then (lett (ref10_wrong a1 r2.2) fun r3 =>
 some r3)
 else (some (S_ref10_Found.mk r2.1 a2 0 0)))
 else ((ref09_Scalar n a0 false).bind fun r4 =>
 if (!r4.2) = true then (lett (ref10_wrong a1 3) fun r5 =>
 some r5)
 else (some (S_ref10_Found.mk r4.1 a2 0 0)))) else none) else none
theorem ok_ref10_value (n:Nat) (a0:List UInt8) (a1:Int) (a2:Int) (r:S_ref10_Found) (h:ref10_value n a0 a1 a2 = some r):CallsX Tryz.prog 63 [.str a0,vi a1,vi a2] (.agg (qc26 r)):=by
 unfold ref10_value at h
 refine xo Tryz.f63 rfl fun F0 w0 _=>?_
 refine Wp.seq (rg [0,1,2,6] [6] [(0,.str a0),(1,vi a1),(2,vi a2),(6,.own 6 0)] [(6,55,[vi 0,.str [],.val (.slice none 0 0),.val (.slice none 0 0),vi 0,vi 0,vi 0])] (To.thenN (Wp.seq (Wp.seq ?_))))
 obtain ⟨hc6,h⟩:=chk_of h
 obtain ⟨hc7,h⟩:=chk_of h
 obtain ⟨x1,hx1,h⟩:=lett_of h
 refine r0 [0,1,2,6,23] [6] [(0,.str a0),(1,vi a1),(2,vi a2),(6,.own 6 0),(23,vb (bif (ex62 a0) then (bif ((ex23 a0) == 91) then true else ((ex23 a0) == 123)) else false))] [(6,55,[vi 0,.str [],.val (.slice none 0 0),.val (.slice none 0 0),vi 0,vi 0,vi 0])] (AllP.cons hc6 (AllP.cons hc7 AllP.nil)) (To.eq (K':=[(0,.str a0),(1,vi a1),(2,vi a2),(6,.own 6 0),(23,vb x1)]) (L':=[(6,55,[vi 0,.str [],.val (.slice none 0 0),.val (.slice none 0 0),vi 0,vi 0,vi 0])]) (by cases hx1; rfl) (by cases hx1; rfl) (To.thenN (cn h (fun h=>?_) (fun h=>?_))))
 ·refine Wp.seq ?_
  obtain ⟨r2,hr2,h⟩:=bind_of h
  refine rc [] 1 [1,2,6,7,8] [6,7] [(1,vi a1),(2,vi a2),(6,.own 6 0),(7,.own 7 0),(8,vi r2.2)] [(6,55,[vi 0,.str [],.val (.slice none 0 0),.val (.slice none 0 0),vi 0,vi 0,vi 0]),(7,26,qc9 r2.1)] (ok_ref09_Parse n a0 _ hr2) (To.thenN (Wp.seq (Wp.seq (rg [1,2,6,7,8,30] [6,7] [(1,vi a1),(2,vi a2),(6,.own 6 0),(7,.own 7 0),(8,vi r2.2),(30,vb (r2.2 != 0))] [(6,55,[vi 0,.str [],.val (.slice none 0 0),.val (.slice none 0 0),vi 0,vi 0,vi 0]),(7,26,qc9 r2.1)] (To.thenN (cn h (fun h=>?_) (fun h=>?_)))))))
  ·refine Wp.seq ?_
   obtain ⟨r3,hr3,h⟩:=lett_of h
   refine rc [] 2 [6] [6] [(6,.own 6 0)] [(6,55,(E_ref10_Found r3))] (ok_ref10_wrong a1 r2.2 _ hr3) (To.thenN (Wp.ret (To.thenR (To.thenR ?_))))
   cases h
   exact To.done hΓ (by kernel_rfl)
  ·refine Wp.skip (To.thenN (Wp.seq (rg [6] [6] [(6,.own 6 0)] [(6,55,[vi r2.1.f_Kind,.str r2.1.f_Text,ls r2.1.f_Keys,tn8 r2.1.f_Kids,vi a2,vi 0,vi 0])] (To.thenN (Wp.ret (To.thenR ?_))))))
   cases h
   exact To.done hΓ (by kernel_rfl)
 ·refine Wp.skip (To.thenN (Wp.seq ?_))
  obtain ⟨r4,hr4,h⟩:=bind_of h
  refine rc [] 1 [1,2,6,9,10] [6,9] [(1,vi a1),(2,vi a2),(6,.own 6 0),(9,.own 9 0),(10,vb r4.2)] [(6,55,[vi 0,.str [],.val (.slice none 0 0),.val (.slice none 0 0),vi 0,vi 0,vi 0]),(9,26,qc9 r4.1)] (ok_ref09_Scalar n a0 false _ hr4) (To.thenN (Wp.seq (Wp.seq (rg [1,2,6,9,43] [6,9] [(1,vi a1),(2,vi a2),(6,.own 6 0),(9,.own 9 0),(43,vb (!r4.2))] [(6,55,[vi 0,.str [],.val (.slice none 0 0),.val (.slice none 0 0),vi 0,vi 0,vi 0]),(9,26,qc9 r4.1)] (To.thenN (cn h (fun h=>?_) (fun h=>?_)))))))
  ·refine Wp.seq ?_
   obtain ⟨r5,hr5,h⟩:=lett_of h
   refine rc [] 1 [6] [6] [(6,.own 6 0)] [(6,55,(E_ref10_Found r5))] (ok_ref10_wrong a1 3 _ hr5) (To.thenN (Wp.ret (To.thenR ?_)))
   cases h
   exact To.done hΓ (by kernel_rfl)
  ·refine Wp.skip (To.thenN (Wp.seq (rg [6] [6] [(6,.own 6 0)] [(6,55,[vi r4.1.f_Kind,.str r4.1.f_Text,ls r4.1.f_Keys,tn8 r4.1.f_Kids,vi a2,vi 0,vi 0])] (To.thenN (Wp.ret ?_)))))
   cases h
   exact To.done hΓ (by kernel_rfl)
def ref10_pairs_j2 (R_ref10_Block:(List (S_line_Line)) → Int → Option (S_ref10_Found)) (n:Nat) (v0:List (S_line_Line)) (v1:Int) (v5:Int) (v8:List UInt8) (v9:List UInt8) (v70:Bool) (b4:S_ref10_Found) (b6:S_api_Node) (b7:S_line_Line) (b11:S_ref10_Found):Option (S_ref10_Found) :=
 if v70 = true then ((ref10_value n v9 b7.f_No (IntKind.wrap .i64 (v1 + 1))).bind fun r6 =>
 some r6)
 else ((ref10_deeper n v0 (IntKind.wrap .i64 (v1 + 1)) v5).bind fun r7 =>
 if ((!(((decide ((IntKind.wrap .i64 (v1 + 1)) < (List.length v0:Int))) == true) && (r7 == false)) || decide (0 ≤ (IntKind.wrap .i64 (v1 + 1)) ∧ (IntKind.wrap .i64 (v1 + 1)) < (List.length v0:Int)))) = true then (if ((!(((bif (decide ((IntKind.wrap .i64 (v1 + 1)) < (List.length v0:Int))) then ((((v0)[Int.toNat (IntKind.wrap .i64 (v1 + 1))]?.getD (S_line_Line.mk 0 0 [])).f_Indent) == v5) else false) == true) && (r7 == false)) || decide (0 ≤ (IntKind.wrap .i64 (v1 + 1)) ∧ (IntKind.wrap .i64 (v1 + 1)) < (List.length v0:Int)))) = true then (((if (((bif (decide ((IntKind.wrap .i64 (v1 + 1)) < (List.length v0:Int))) then ((((v0)[Int.toNat (IntKind.wrap .i64 (v1 + 1))]?.getD (S_line_Line.mk 0 0 [])).f_Indent) == v5) else false) == true) && (r7 == false)) = true then ref10_Row n (((v0)[Int.toNat (IntKind.wrap .i64 (v1 + 1))]?.getD (S_line_Line.mk 0 0 [])).f_Text) else some false)).bind fun r8 =>
 lett ((bif r7 then true else (bif (bif (decide ((IntKind.wrap .i64 (v1 + 1)) < (List.length v0:Int))) then ((((v0)[Int.toNat (IntKind.wrap .i64 (v1 + 1))]?.getD (S_line_Line.mk 0 0 [])).f_Indent) == v5) else false) then r8 else false)):Bool) fun x9 =>
 if x9 = true then ((R_ref10_Block v0 (IntKind.wrap .i64 (v1 + 1))).bind fun r10 =>
 some r10)
 else some b11) else none) else none)
abbrev ex75 (x0:Int) (x1:List (S_line_Line)) (x2:Int):=(bif (decide ((IntKind.wrap .i64 (x0 + 1)) < (List.length x1:Int))) then ((((x1)[Int.toNat (IntKind.wrap .i64 (x0 + 1))]?.getD zx4).f_Indent) == x2) else false)
theorem ok_ref10_pairs_j2 (R_ref10_Block:(List (S_line_Line)) → Int → Option (S_ref10_Found)) (hR_ref10_Block:hR27 R_ref10_Block) (n:Nat) (v0:List (S_line_Line)) (v1:Int) (v5:Int) (v8:List UInt8) (v9:List UInt8) (v70:Bool) (b4:S_ref10_Found) (b6:S_api_Node) (b7:S_line_Line) (b11:S_ref10_Found) (o:S_ref10_Found) (h:ref10_pairs_j2 R_ref10_Block n v0 v1 v5 v8 v9 v70 b4 b6 b7 b11 = some o) {F0:Fz} {w0:Pt Tryz.prog} {Q:Exit → Act → World → Prop} (hQ:To 134 F0 w0 [(0,rs24 v0),(4,.own 4 0),(5,vi v5),(6,.own 6 0),(8,.str v8),(11,.own 11 0)] [(4,55,(E_ref10_Found b4)),(6,26,qc20 4362 4363 b6),(11,55,qc26 o),(4362,9,[rc21 b6.f_Keys]),(4363,26,[rc12 b6.f_Kids])] .normal Q):Wp Tryz.prog 134 F0 w0 [(0,rs24 v0),(1,vi v1),(4,.own 4 0),(5,vi v5),(6,.own 6 0),(7,.own 7 0),(8,.str v8),(9,.str v9),(11,.own 11 0),(70,vb v70)] [(4,55,(E_ref10_Found b4)),(6,26,qc20 4362 4363 b6),(7,57,qc3 b7),(11,55,(E_ref10_Found b11)),(4362,9,[rc21 b6.f_Keys]),(4363,26,[rc12 b6.f_Kids])] (cB (cA (cB (cB (cB (cB (cB (cI (cB (cI (cI (cA (cB (cB (cB (cF Tryz.f62)))))))))))))))) Q:=by
 unfold ref10_pairs_j2 at h
 refine cn h (fun h=>?_) (fun h=>?_)
 ·obtain ⟨r6,hr6,h⟩:=bind_of h
  refine rc [] 5 [0,4,5,6,8,11] [4,6,11,4362,4363] [(0,rs24 v0),(4,.own 4 0),(5,vi v5),(6,.own 6 0),(8,.str v8),(11,.own 11 0)] [(4,55,(E_ref10_Found b4)),(6,26,qc20 4362 4363 b6),(11,55,(E_ref10_Found r6)),(4362,9,[rc21 b6.f_Keys]),(4363,26,[rc12 b6.f_Kids])] (ok_ref10_value n v9 b7.f_No (IntKind.wrap .i64 (v1 + 1)) _ hr6) (kt [0,4,5,6,8,11] [4,6,11,4362,4363] [(0,rs24 v0),(4,.own 4 0),(5,vi v5),(6,.own 6 0),(8,.str v8),(11,.own 11 0)] [(4,55,(E_ref10_Found b4)),(6,26,qc20 4362 4363 b6),(11,55,(E_ref10_Found r6)),(4362,9,[rc21 b6.f_Keys]),(4363,26,[rc12 b6.f_Kids])] ?_)
  cases h
  exact hQ
 ·refine Wp.seq ?_
  obtain ⟨r7,hr7,h⟩:=bind_of h
  obtain ⟨hc11,h⟩:=chk_of h
  obtain ⟨hc12,h⟩:=chk_of h
  obtain ⟨r8,hr8,h⟩:=bind_of h
  obtain ⟨x9,hx9,h⟩:=lett_of h
  refine rr [] [(4,vb r7),(28,vb r8)] [] [0,1,4,5,6,8,11,107] [4,6,11,4362,4363] [(0,rs24 v0),(1,vi v1),(4,.own 4 0),(5,vi v5),(6,.own 6 0),(8,.str v8),(11,.own 11 0),(107,vb (bif r7 then true else (bif (ex75 v1 v0 v5) then r8 else false)))] [(4,55,(E_ref10_Found b4)),(6,26,qc20 4362 4363 b6),(11,55,(E_ref10_Found b11)),(4362,9,[rc21 b6.f_Keys]),(4363,26,[rc12 b6.f_Kids])] [_,_,_,((((ex75 v1 v0 v5) == true) && (r7 == false)) = true → CX Tryz.prog 15 [.str (((v0)[Int.toNat (IntKind.wrap .i64 (v1 + 1))]?.getD zx4).f_Text)] (vb r8))] (AllP.cons (c1 (ok_ref10_deeper n v0 (IntKind.wrap .i64 (v1 + 1)) v5 _ hr7)) (AllP.cons hc11 (AllP.cons hc12 (AllP.cons (fun hg=>cx (ok_ref10_Row n (((v0)[Int.toNat (IntKind.wrap .i64 (v1 + 1))]?.getD zx4).f_Text) _ (if_t hg hr8))) AllP.nil)))) (To.eq (K':=[(0,rs24 v0),(1,vi v1),(4,.own 4 0),(5,vi v5),(6,.own 6 0),(8,.str v8),(11,.own 11 0),(107,vb x9)]) (L':=[(4,55,(E_ref10_Found b4)),(6,26,qc20 4362 4363 b6),(11,55,(E_ref10_Found b11)),(4362,9,[rc21 b6.f_Keys]),(4363,26,[rc12 b6.f_Kids])]) (by cases hx9; rfl) (by cases hx9; rfl) (To.thenN (cn h (fun h=>?_) (fun h=>?_))))
  ·obtain ⟨r10,hr10,h⟩:=bind_of h
   refine rr [] [(3,.agg (qc26 r10))] [] [0,4,5,6,8,11] [4,6,11,4362,4363] [(0,rs24 v0),(4,.own 4 0),(5,vi v5),(6,.own 6 0),(8,.str v8),(11,.own 11 0)] [(4,55,(E_ref10_Found b4)),(6,26,qc20 4362 4363 b6),(11,55,(E_ref10_Found r10)),(4362,9,[rc21 b6.f_Keys]),(4363,26,[rc12 b6.f_Kids])] [(true = true → CX Tryz.prog 28 [rs24 v0,vi (IntKind.wrap .i64 (v1 + 1))] (.agg (qc26 r10)))] (AllP.cons (fun _=>cx (hR_ref10_Block v0 (IntKind.wrap .i64 (v1 + 1)) _ hr10)) AllP.nil) (kt [0,4,5,6,8,11] [4,6,11,4362,4363] [(0,rs24 v0),(4,.own 4 0),(5,vi v5),(6,.own 6 0),(8,.str v8),(11,.own 11 0)] [(4,55,(E_ref10_Found b4)),(6,26,qc20 4362 4363 b6),(11,55,(E_ref10_Found r10)),(4362,9,[rc21 b6.f_Keys]),(4363,26,[rc12 b6.f_Kids])] ?_)
   cases h
   exact hQ
  ·refine Wp.skip (kt [0,4,5,6,8,11] [4,6,11,4362,4363] [(0,rs24 v0),(4,.own 4 0),(5,vi v5),(6,.own 6 0),(8,.str v8),(11,.own 11 0)] [(4,55,(E_ref10_Found b4)),(6,26,qc20 4362 4363 b6),(11,55,(E_ref10_Found b11)),(4362,9,[rc21 b6.f_Keys]),(4363,26,[rc12 b6.f_Kids])] ?_)
   cases h
   exact hQ
def ref10_pairs_l1 (R_ref10_Block:(List (S_line_Line)) → Int → Option (S_ref10_Found)) (n:Nat) (v0:List (S_line_Line)) (v5:Int):Nat → Int → S_ref10_Found → S_api_Node → Option (Sum (Int × S_ref10_Found × S_api_Node) (S_ref10_Found))
 | 0,_,_,_=>none
 | k + 1,v1,b4,b6=>if ((!((decide (v1 < (List.length v0:Int))) == true) || decide (0 ≤ v1 ∧ v1 < (List.length v0:Int)))) = true then (lett ((bif (decide (v1 < (List.length v0:Int))) then (decide ((((v0)[Int.toNat v1]?.getD (S_line_Line.mk 0 0 [])).f_Indent) ≥ v5)) else false):Bool) fun x1 =>
 if x1 = true then (if (decide (0 ≤ v1 ∧ v1 < (List.length v0:Int))) = true then ((ref10_Entry n (((v0)[Int.toNat v1]?.getD (S_line_Line.mk 0 0 [])).f_Text)).bind fun r2 =>
 ((if (((decide (r2.2.2 > 0)) == true) && ((bif (decide ((((v0)[Int.toNat v1]?.getD (S_line_Line.mk 0 0 [])).f_Indent) > v5)) then true else (decide (r2.2.2 < 0))) == false)) = true then ref02_In n b6.f_Keys r2.1 else some false)).bind fun r3 =>
 lett ((bif (bif (decide ((((v0)[Int.toNat v1]?.getD (S_line_Line.mk 0 0 [])).f_Indent) > v5)) then true else (decide (r2.2.2 < 0))) then true else (bif (decide (r2.2.2 > 0)) then r3 else false)):Bool) fun x4 =>
 if x4 = true then (lett (ref10_wrong (((v0)[Int.toNat v1]?.getD (S_line_Line.mk 0 0 [])).f_No) 3) fun r5 =>
 some (.inr r5))
 else (if (r2.2.2 == 0) = true then (some (.inl (v1,b4,b6)))
 else ((ref10_pairs_j2 R_ref10_Block n v0 v1 v5 r2.1 r2.2.1 (decide ((List.length r2.2.1:Int) > 0)) b4 b6 ((v0)[Int.toNat v1]?.getD (S_line_Line.mk 0 0 [])) (S_ref10_Found.mk (S_api_Node.mk 0 [] [] []) (IntKind.wrap .i64 (v1 + 1)) 0 0)).bind fun o6 =>
 if (o6.f_E != 0) = true then (some (.inr o6))
 else (if (decide ((List.length b6.f_Keys + List.length ([r2.1]:List (List UInt8))) * (16 + 1) ≤ limit)) = true then (if (decide ((List.length b6.f_Kids + List.length ([o6.f_N]:List (S_api_Node))) * (72 + 1) ≤ limit)) = true then (ref10_pairs_l1 R_ref10_Block n v0 v5 k o6.f_Next b4 (S_api_Node.mk b6.f_Kind b6.f_Text (b6.f_Keys ++ ([r2.1]:List (List UInt8))) (b6.f_Kids ++ ([o6.f_N]:List (S_api_Node))))) else none) else none)))) else none)
 else (some (.inl (v1,b4,b6)))) else none
abbrev ex76 (x0:Int):Nat × Nat × List D:=(11,55,[vi 0,.str [],.val (.slice none 0 0),.val (.slice none 0 0),vi (IntKind.wrap .i64 (x0 + 1)),vi 0,vi 0])
theorem ok_ref10_pairs_l1 (R_ref10_Block:(List (S_line_Line)) → Int → Option (S_ref10_Found)) (hR_ref10_Block:hR27 R_ref10_Block) (n:Nat) (v0:List (S_line_Line)) (v5:Int) {F0:Fz} {w0:Pt Tryz.prog} {Q:Exit → Act → World → Prop} (k:Nat):∀ (v1:Int) (b4:S_ref10_Found) (b6:S_api_Node) (o:Sum (Int × S_ref10_Found × S_api_Node) (S_ref10_Found)),ref10_pairs_l1 R_ref10_Block n v0 v5 k v1 b4 b6 = some o → (Sum.elim (fun s=>To 134 F0 w0 [(1,vi s.1),(4,.own 4 0),(6,.own 6 0)] [(4,55,qc26 s.2.1),(6,26,qc20 4362 4363 s.2.2),(4362,9,[rc21 s.2.2.f_Keys]),(4363,26,[rc12 s.2.2.f_Kids])] (.exit 0) Q) (fun s=>To 134 F0 w0 [(4,.own 4 0)] [(4,55,qc26 s)] .ret Q)) o → WL Tryz.prog 134 F0 w0 [(0,rs24 v0),(1,vi v1),(4,.own 4 0),(5,vi v5),(6,.own 6 0)] [(4,55,(E_ref10_Found b4)),(6,26,qc20 4362 4363 b6),(4362,9,[rc21 b6.f_Keys]),(4363,26,[rc12 b6.f_Kids])] (cI (cI (cA (cB (cB (cB (cF Tryz.f62))))))) Q:=by
 induction k with
 | zero=>intro v1 b4 b6 o h; cases h
 | succ k ih =>
  intro v1 b4 b6 o h hQ
  rw [ref10_pairs_l1] at h
  refine WL.round (Wp.seq (Wp.seq ?_))
  obtain ⟨hc10,h⟩:=chk_of h
  obtain ⟨x1,hx1,h⟩:=lett_of h
  refine r0 [0,1,4,5,6,30] [4,6,4362,4363] [(0,rs24 v0),(1,vi v1),(4,.own 4 0),(5,vi v5),(6,.own 6 0),(30,vb (bif (ex65 v1 v0) then (decide (((ex96 v0 v1).f_Indent) ≥ v5)) else false))] [(4,55,(E_ref10_Found b4)),(6,26,qc20 4362 4363 b6),(4362,9,[rc21 b6.f_Keys]),(4363,26,[rc12 b6.f_Kids])] (AllP.cons hc10 AllP.nil) (To.eq (K':=[(0,rs24 v0),(1,vi v1),(4,.own 4 0),(5,vi v5),(6,.own 6 0),(30,vb x1)]) (L':=[(4,55,(E_ref10_Found b4)),(6,26,qc20 4362 4363 b6),(4362,9,[rc21 b6.f_Keys]),(4363,26,[rc12 b6.f_Kids])]) (by cases hx1; rfl) (by cases hx1; rfl) (To.thenN (cn h (fun h=>?_) (fun h=>?_))))
  ·refine Wp.skip (To.thenN (Wp.block (Wp.seq ?_)))
   obtain ⟨hc9,h⟩:=chk_of h
   refine r0 [0,1,4,5,6,7] [4,6,7,4362,4363] [(0,rs24 v0),(1,vi v1),(4,.own 4 0),(5,vi v5),(6,.own 6 0),(7,.own 7 0)] [(4,55,(E_ref10_Found b4)),(6,26,qc20 4362 4363 b6),(ex66 v0 v1),(4362,9,[rc21 b6.f_Keys]),(4363,26,[rc12 b6.f_Kids])] (AllP.cons hc9 AllP.nil) (To.thenN (Wp.seq ?_))
   obtain ⟨r2,hr2,h⟩:=bind_of h
   refine rc [] 2 [0,1,4,5,6,7,8,9,10] [4,6,7,4362,4363] [(0,rs24 v0),(1,vi v1),(4,.own 4 0),(5,vi v5),(6,.own 6 0),(7,.own 7 0),(8,.str r2.1),(9,.str r2.2.1),(10,vi r2.2.2)] [(4,55,(E_ref10_Found b4)),(6,26,qc20 4362 4363 b6),(ex66 v0 v1),(4362,9,[rc21 b6.f_Keys]),(4363,26,[rc12 b6.f_Kids])] (ok_ref10_Entry n ((ex96 v0 v1).f_Text) _ hr2) (To.thenN (Wp.seq (Wp.seq ?_)))
   obtain ⟨r3,hr3,h⟩:=bind_of h
   obtain ⟨x4,hx4,h⟩:=lett_of h
   refine rr [] [(15,vb r3)] [] [0,1,4,5,6,7,8,9,10,59] [4,6,7,4362,4363] [(0,rs24 v0),(1,vi v1),(4,.own 4 0),(5,vi v5),(6,.own 6 0),(7,.own 7 0),(8,.str r2.1),(9,.str r2.2.1),(10,vi r2.2.2),(59,vb (bif (bif (ex69 v0 v1 v5) then true else (decide (r2.2.2 < 0))) then true else (bif (decide (r2.2.2 > 0)) then r3 else false)))] [(4,55,(E_ref10_Found b4)),(6,26,qc20 4362 4363 b6),(ex66 v0 v1),(4362,9,[rc21 b6.f_Keys]),(4363,26,[rc12 b6.f_Kids])] [((((decide (r2.2.2 > 0)) == true) && ((bif (ex69 v0 v1 v5) then true else (decide (r2.2.2 < 0))) == false)) = true → CX Tryz.prog 96 [ls b6.f_Keys,.str r2.1] (vb r3))] (AllP.cons (fun hg=>cx (ok_ref02_In n b6.f_Keys r2.1 _ (if_t hg hr3))) AllP.nil) (To.eq (K':=[(0,rs24 v0),(1,vi v1),(4,.own 4 0),(5,vi v5),(6,.own 6 0),(7,.own 7 0),(8,.str r2.1),(9,.str r2.2.1),(10,vi r2.2.2),(59,vb x4)]) (L':=[(4,55,(E_ref10_Found b4)),(6,26,qc20 4362 4363 b6),(ex66 v0 v1),(4362,9,[rc21 b6.f_Keys]),(4363,26,[rc12 b6.f_Kids])]) (by cases hx4; rfl) (by cases hx4; rfl) (To.thenN (cn h (fun h=>?_) (fun h=>?_))))
   ·refine Wp.seq ?_
    obtain ⟨r5,hr5,h⟩:=lett_of h
    refine rc [] 2 [4] [4] [(4,.own 4 0)] [(4,55,(E_ref10_Found r5))] (ok_ref10_wrong ((ex96 v0 v1).f_No) 3 _ hr5) (To.thenN (Wp.ret (To.thenR (To.blockR (To.thenR ?_)))))
    cases h
    exact hQ
   ·refine Wp.skip (To.thenN (Wp.seq (Wp.seq (rg [0,1,4,5,6,7,8,9,64] [4,6,7,4362,4363] [(0,rs24 v0),(1,vi v1),(4,.own 4 0),(5,vi v5),(6,.own 6 0),(7,.own 7 0),(8,.str r2.1),(9,.str r2.2.1),(64,vb (r2.2.2 == 0))] [(4,55,(E_ref10_Found b4)),(6,26,qc20 4362 4363 b6),(ex66 v0 v1),(4362,9,[rc21 b6.f_Keys]),(4363,26,[rc12 b6.f_Kids])] (To.thenN (cn h (fun h=>?_) (fun h=>?_)))))))
    ·refine Wp.exit (To.thenX (To.blockO (by decide) (To.thenX (kt [1,4,6] [4,6,4362,4363] [(1,vi v1),(4,.own 4 0),(6,.own 6 0)] [(4,55,(E_ref10_Found b4)),(6,26,qc20 4362 4363 b6),(4362,9,[rc21 b6.f_Keys]),(4363,26,[rc12 b6.f_Kids])] ?_))))
     cases h
     exact hQ
    ·refine Wp.skip (To.thenN (Wp.seq (rg [0,1,4,5,6,7,8,9,11] [4,6,7,11,4362,4363] [(0,rs24 v0),(1,vi v1),(4,.own 4 0),(5,vi v5),(6,.own 6 0),(7,.own 7 0),(8,.str r2.1),(9,.str r2.2.1),(11,.own 11 0)] [(4,55,(E_ref10_Found b4)),(6,26,qc20 4362 4363 b6),(ex66 v0 v1),(ex76 v1),(4362,9,[rc21 b6.f_Keys]),(4363,26,[rc12 b6.f_Kids])] (To.thenN (Wp.seq (Wp.seq (rg [0,1,4,5,6,7,8,9,11,70] [4,6,7,11,4362,4363] [(0,rs24 v0),(1,vi v1),(4,.own 4 0),(5,vi v5),(6,.own 6 0),(7,.own 7 0),(8,.str r2.1),(9,.str r2.2.1),(11,.own 11 0),(70,vb (decide ((List.length r2.2.1:Int) > 0)))] [(4,55,(E_ref10_Found b4)),(6,26,qc20 4362 4363 b6),(ex66 v0 v1),(ex76 v1),(4362,9,[rc21 b6.f_Keys]),(4363,26,[rc12 b6.f_Kids])] (To.thenN ?_))))))))
     obtain ⟨o6,ho6,h⟩:=bind_of h
     refine kw [0,1,4,5,6,7,8,9,11,70] [4,6,7,11,4362,4363] [(0,rs24 v0),(1,vi v1),(4,.own 4 0),(5,vi v5),(6,.own 6 0),(7,.own 7 0),(8,.str r2.1),(9,.str r2.2.1),(11,.own 11 0),(70,vb (decide ((List.length r2.2.1:Int) > 0)))] [(4,55,(E_ref10_Found b4)),(6,26,qc20 4362 4363 b6),(ex66 v0 v1),(ex76 v1),(4362,9,[rc21 b6.f_Keys]),(4363,26,[rc12 b6.f_Kids])] (Wp.weak (K':=[(0,rs24 v0),(1,vi v1),(4,.own 4 0),(5,vi v5),(6,.own 6 0),(7,.own 7 0),(8,.str r2.1),(9,.str r2.2.1),(11,.own 11 0),(70,vb (decide ((List.length r2.2.1:Int) > 0)))]) (L':=[(4,55,(E_ref10_Found b4)),(6,26,qc20 4362 4363 b6),(ex66 v0 v1),(11,55,[vi 0,.str [],ls [],tn8 [],vi (IntKind.wrap .i64 (v1 + 1)),vi 0,vi 0]),(4362,9,[rc21 b6.f_Keys]),(4363,26,[rc12 b6.f_Kids])]) (.cons (.refl _) (.cons (.refl _) (.cons (.refl _) (.cons (.refl _) (.cons (.refl _) (.cons (.refl _) (.cons (.refl _) (.cons (.refl _) (.cons (.refl _) (.cons (.refl _) .nil)))))))))) (.cons (.cons (.refl _) (.cons (.refl _) (.cons (.refl _) (.cons (.refl _) (.cons (.refl _) (.cons (.refl _) (.cons (.refl _) .nil))))))) (.cons (.cons (.refl _) (.cons (.refl _) (.cons (.refl _) (.cons (.refl _) .nil)))) (.cons (.cons (.refl _) (.cons (.refl _) (.cons (.refl _) .nil))) (.cons (.cons (.refl _) (.cons (.refl _) (.cons (.zero _ _) (.cons (.zeroT _ _ _) (.cons (.refl _) (.cons (.refl _) (.cons (.refl _) .nil))))))) (.cons (.cons (.refl _) .nil) (.cons (.cons (.refl _) .nil) .nil)))))) (ok_ref10_pairs_j2 R_ref10_Block hR_ref10_Block n v0 v1 v5 r2.1 r2.2.1 (decide ((List.length r2.2.1:Int) > 0)) b4 b6 (ex96 v0 v1) (S_ref10_Found.mk zx7 (IntKind.wrap .i64 (v1 + 1)) 0 0) o6 ho6 (To.thenN (Wp.seq (Wp.seq (rg [0,4,5,6,8,11,114] [4,6,11,4362,4363] [(0,rs24 v0),(4,.own 4 0),(5,vi v5),(6,.own 6 0),(8,.str r2.1),(11,.own 11 0),(114,vb (o6.f_E != 0))] [(4,55,(E_ref10_Found b4)),(6,26,qc20 4362 4363 b6),(11,55,(E_ref10_Found o6)),(4362,9,[rc21 b6.f_Keys]),(4363,26,[rc12 b6.f_Kids])] (To.thenN (cn h (fun h=>?_) (fun h=>?_)))))))))
     ·refine Wp.seq (rg [4] [4] [(4,.own 4 0)] [(4,55,(E_ref10_Found o6))] (To.thenN (Wp.ret (To.thenR (To.blockR (To.thenR ?_))))))
      cases h
      exact hQ
     ·refine Wp.skip (To.thenN (Wp.seq ?_))
      obtain ⟨hc8,h⟩:=chk_of h
      refine rr [] [(3,ls [r2.1]),(4,ls (b6.f_Keys ++ ([r2.1]:List (List UInt8))))] [] [0,4,5,6,11] [4,6,11,120,4363] [(0,rs24 v0),(4,.own 4 0),(5,vi v5),(6,.own 6 0),(11,.own 11 0)] [(4,55,(E_ref10_Found b4)),(6,26,qc20 120 4363 b6),(11,55,(E_ref10_Found o6)),(120,9,[rc21 (b6.f_Keys ++ ([r2.1]:List (List UInt8)))]),(4363,26,[rc12 b6.f_Kids])] [(MkOb 1 [.str r2.1] 1 (ls [r2.1]) ∧ GoodR (ls [r2.1])),_,(AppOb [] E_string b6.f_Keys (List.flatMap E_string ([r2.1]:List (List UInt8))) (List.length ([r2.1]:List (List UInt8))) (ls (b6.f_Keys ++ ([r2.1]:List (List UInt8)))) ∧ GoodR (ls (b6.f_Keys ++ ([r2.1]:List (List UInt8)))))] (AllP.cons (mkOb (by kernel_rfl) rfl (by kernel_rfl) (good_E_string _)) (AllP.cons hc8 (AllP.cons (appOb rfl rfl (good_E_string _)) AllP.nil))) (To.thenN (Wp.seq ?_))
      obtain ⟨hc7,h⟩:=chk_of h
      refine rr [] [(4,rs13 [o6.f_N]),(5,rs13 (b6.f_Kids ++ ([o6.f_N]:List (S_api_Node))))] [] [0,4,5,6,11] [4,6,11,120,127] [(0,rs24 v0),(4,.own 4 0),(5,vi v5),(6,.own 6 0),(11,.own 11 0)] [(4,55,(E_ref10_Found b4)),(6,26,qc20 120 127 b6),(11,55,(E_ref10_Found o6)),(120,9,[rc21 (b6.f_Keys ++ ([r2.1]:List (List UInt8)))]),(127,26,[rc12 (b6.f_Kids ++ ([o6.f_N]:List (S_api_Node)))])] [(MkOb 4 [vi o6.f_N.f_Kind,.str o6.f_N.f_Text,ls o6.f_N.f_Keys,tn8 o6.f_N.f_Kids] 1 (rs13 [o6.f_N]) ∧ GoodR (rs13 [o6.f_N])),_,(AppOb zx7 E_api_Node b6.f_Kids (List.flatMap E_api_Node ([o6.f_N]:List (S_api_Node))) (List.length ([o6.f_N]:List (S_api_Node))) (rs13 (b6.f_Kids ++ ([o6.f_N]:List (S_api_Node)))) ∧ GoodR (rs13 (b6.f_Kids ++ ([o6.f_N]:List (S_api_Node)))))] (AllP.cons (mkOb (by kernel_rfl) rfl (by kernel_rfl) (good_E_api_Node _)) (AllP.cons hc7 (AllP.cons (appOb rfl rfl (good_E_api_Node _)) AllP.nil))) (To.thenN (rg [0,1,4,5,6] [4,6,120,127] [(0,rs24 v0),(1,vi o6.f_Next),(4,.own 4 0),(5,vi v5),(6,.own 6 0)] [(4,55,(E_ref10_Found b4)),(6,26,qc20 120 127 b6),(120,9,[rc21 (b6.f_Keys ++ ([r2.1]:List (List UInt8)))]),(127,26,[rc12 (b6.f_Kids ++ ([o6.f_N]:List (S_api_Node)))])] (To.blockN (nt [0,1,4,5,6] [4,6,120,127] [(120,4362),(127,4363)] [0,1,4,5,6] [4,6,4362,4363] [(0,rs24 v0),(1,vi o6.f_Next),(4,.own 4 0),(5,vi v5),(6,.own 6 0)] [(4,55,(E_ref10_Found b4)),(6,26,qc20 4362 4363 b6),(4362,9,[rc21 (b6.f_Keys ++ ([r2.1]:List (List UInt8)))]),(4363,26,[rc12 (b6.f_Kids ++ ([o6.f_N]:List (S_api_Node)))])] (To.again ?_)))))
      exact ih o6.f_Next b4 (S_api_Node.mk b6.f_Kind b6.f_Text (b6.f_Keys ++ ([r2.1]:List (List UInt8))) (b6.f_Kids ++ ([o6.f_N]:List (S_api_Node)))) _ h hQ
  ·refine Wp.exit (To.thenX (To.thenX (kt [1,4,6] [4,6,4362,4363] [(1,vi v1),(4,.own 4 0),(6,.own 6 0)] [(4,55,(E_ref10_Found b4)),(6,26,qc20 4362 4363 b6),(4362,9,[rc21 b6.f_Keys]),(4363,26,[rc12 b6.f_Kids])] ?_)))
   cases h
   exact hQ
def ref10_pairs (R_ref10_Block:(List (S_line_Line)) → Int → Option (S_ref10_Found)) (n:Nat) (a0:List (S_line_Line)) (a1:Int):Option (S_ref10_Found) :=
 if (decide (0 ≤ a1 ∧ a1 < (List.length a0:Int))) = true then ((ref10_pairs_l1 R_ref10_Block n a0 (((a0)[Int.toNat a1]?.getD (S_line_Line.mk 0 0 [])).f_Indent) n a1 (S_ref10_Found.mk (S_api_Node.mk 0 [] [] []) 0 0 0) (S_api_Node.mk 3 [] [] [])).bind fun o1 =>
 (Sum.elim (fun o1=>some (S_ref10_Found.mk o1.2.2 o1.1 0 0)) (fun o1=>some o1)) o1) else none
theorem ok_ref10_pairs (R_ref10_Block:(List (S_line_Line)) → Int → Option (S_ref10_Found)) (hR_ref10_Block:hR27 R_ref10_Block) (n:Nat) (a0:List (S_line_Line)) (a1:Int) (r:S_ref10_Found) (h:ref10_pairs R_ref10_Block n a0 a1 = some r):CallsX Tryz.prog 62 [rs24 a0,vi a1] (.agg (qc26 r)):=by
 unfold ref10_pairs at h
 refine xo Tryz.f62 rfl fun F0 w0 _=>?_
 refine Wp.seq (rg [0,1,4] [4] [(0,rs24 a0),(1,vi a1),(4,.own 4 0)] [(4,55,[vi 0,.str [],.val (.slice none 0 0),.val (.slice none 0 0),vi 0,vi 0,vi 0])] (To.thenN (Wp.seq ?_)))
 obtain ⟨hc2,h⟩:=chk_of h
 refine r0 [0,1,4,5] [4] [(0,rs24 a0),(1,vi a1),(4,.own 4 0),(ex97 a0 a1)] [(4,55,[vi 0,.str [],.val (.slice none 0 0),.val (.slice none 0 0),vi 0,vi 0,vi 0])] (AllP.cons hc2 AllP.nil) (To.thenN (Wp.seq (rg [0,1,4,5,6] [4,6] [(0,rs24 a0),(1,vi a1),(4,.own 4 0),(ex97 a0 a1),(6,.own 6 0)] [(4,55,[vi 0,.str [],.val (.slice none 0 0),.val (.slice none 0 0),vi 0,vi 0,vi 0]),(6,26,[vi 3,.str [],.val (.slice none 0 0),.val (.slice none 0 0)])] (To.thenN (Wp.seq (Wp.block ?_))))))
 obtain ⟨o1,ho1,h⟩:=bind_of h
 refine kw [0,1,4,5,6] [4,6] [(0,rs24 a0),(1,vi a1),(4,.own 4 0),(ex97 a0 a1),(6,.own 6 0)] [(4,55,[vi 0,.str [],.val (.slice none 0 0),.val (.slice none 0 0),vi 0,vi 0,vi 0]),(6,26,[vi 3,.str [],.val (.slice none 0 0),.val (.slice none 0 0)])] (Wp.pre (St.vacantB 6 2 4362 9 (good_E_string _) (by decide) (by kernel_rfl) (L':=[(4,55,[vi 0,.str [],.val (.slice none 0 0),.val (.slice none 0 0),vi 0,vi 0,vi 0]),(6,26,[vi 3,.str [],.row 4362,.val (.slice none 0 0)])]) (by kernel_rfl)) (kw [0,1,4,5,6] [4,6,4362] [(0,rs24 a0),(1,vi a1),(4,.own 4 0),(ex97 a0 a1),(6,.own 6 0)] [(4,55,[vi 0,.str [],.val (.slice none 0 0),.val (.slice none 0 0),vi 0,vi 0,vi 0]),(6,26,[vi 3,.str [],.row 4362,.val (.slice none 0 0)]),(4362,9,[rc19 []])] (Wp.pre (St.settle (ks:=[4362]) (kk:=[0,1,4,5,6]) (kl:=[4,6,4362]) (K':=[(0,rs24 a0),(1,vi a1),(4,.own 4 0),(ex97 a0 a1),(6,.own 6 0)]) (L':=[(4,55,[vi 0,.str [],.val (.slice none 0 0),.val (.slice none 0 0),vi 0,vi 0,vi 0]),(6,26,[vi 3,.str [],.row 4362,.val (.slice none 0 0)]),(4362,9,[rc21 []])]) (by kernel_rfl)) (Wp.pre (St.vacantB 6 3 4363 26 (good_E_api_Node _) (by decide) (by kernel_rfl) (L':=[(4,55,[vi 0,.str [],.val (.slice none 0 0),.val (.slice none 0 0),vi 0,vi 0,vi 0]),(6,26,[vi 3,.str [],.row 4362,.row 4363]),(4362,9,[rc21 []])]) (by kernel_rfl)) (kw [0,1,4,5,6] [4,6,4362,4363] [(0,rs24 a0),(1,vi a1),(4,.own 4 0),(ex97 a0 a1),(6,.own 6 0)] [(4,55,[vi 0,.str [],.val (.slice none 0 0),.val (.slice none 0 0),vi 0,vi 0,vi 0]),(6,26,[vi 3,.str [],.row 4362,.row 4363]),(4362,9,[rc21 []]),(4363,26,[rc12 []])] (Wp.weak (K':=[(0,rs24 a0),(1,vi a1),(4,.own 4 0),(ex97 a0 a1),(6,.own 6 0)]) (L':=[(4,55,[vi 0,.str [],ls [],tn8 [],vi 0,vi 0,vi 0]),(6,26,[vi 3,.str [],.row 4362,.row 4363]),(4362,9,[rc21 []]),(4363,26,[rc12 []])]) (.cons (.refl _) (.cons (.refl _) (.cons (.refl _) (.cons (.refl _) (.cons (.refl _) .nil))))) (.cons (.cons (.refl _) (.cons (.refl _) (.cons (.zero _ _) (.cons (.zeroT _ _ _) (.cons (.refl _) (.cons (.refl _) (.cons (.refl _) .nil))))))) (.cons (.cons (.refl _) (.cons (.refl _) (.cons (.refl _) (.cons (.refl _) .nil)))) (.cons (.cons (.refl _) .nil) (.cons (.cons (.refl _) .nil) .nil)))) (Wp.loopL (ok_ref10_pairs_l1 R_ref10_Block hR_ref10_Block n a0 ((ex63 a0 a1).f_Indent) n a1 (S_ref10_Found.mk zx7 0 0 0) (S_api_Node.mk 3 [] [] []) o1 ho1 ?_))))))))
 rcases o1 with o1 | o1
 ·replace h:=sum_l h
  refine To.blockX (To.thenN (Wp.seq (rg [4] [4,4362,4363] [(4,.own 4 0)] [(4,55,[vi o1.2.2.f_Kind,.str o1.2.2.f_Text,.row 4362,.row 4363,vi o1.1,vi 0,vi 0]),(4362,9,[rc21 o1.2.2.f_Keys]),(4363,26,[rc12 o1.2.2.f_Kids])] (To.thenN (Wp.ret (To.pre (St.settle (ks:=[4363]) (kk:=[4]) (kl:=[4,4362,4363]) (K':=[(4,.own 4 0)]) (L':=[(4,55,[vi o1.2.2.f_Kind,.str o1.2.2.f_Text,.row 4362,.row 4363,vi o1.1,vi 0,vi 0]),(4362,9,[rc21 o1.2.2.f_Keys]),(4363,26,[rc15 o1.2.2.f_Kids])]) (by kernel_rfl)) (To.pre (St.sealB [4] (L':=[(4,55,[vi o1.2.2.f_Kind,.str o1.2.2.f_Text,ls o1.2.2.f_Keys,rs13 o1.2.2.f_Kids,vi o1.1,vi 0,vi 0]),(4362,9,[rc21 o1.2.2.f_Keys]),(4363,26,[rc15 o1.2.2.f_Kids])]) (by kernel_rfl)) (To.weak (K':=[(4,.own 4 0)]) (L':=[(4,55,[vi o1.2.2.f_Kind,.str o1.2.2.f_Text,ls o1.2.2.f_Keys,tn8 o1.2.2.f_Kids,vi o1.1,vi 0,vi 0]),(4362,9,[rc21 o1.2.2.f_Keys]),(4363,26,[rc15 o1.2.2.f_Kids])]) (.cons (.refl _) .nil) (.cons (.cons (.refl _) (.cons (.refl _) (.cons (.refl _) (.cons (.close _ _ _ _) (.cons (.refl _) (.cons (.refl _) (.cons (.refl _) .nil))))))) (.cons (.cons (.refl _) .nil) (.cons (.cons (.refl _) .nil) .nil))) ?_))))))))
  cases h
  exact To.done hΓ (by kernel_rfl)
 ·replace h:=sum_r h
  refine To.blockR (To.thenR ?_)
  cases h
  exact To.done hΓ (by kernel_rfl)
def ref10_Block_b (R_ref10_Block:(List (S_line_Line)) → Int → Option (S_ref10_Found)) (n:Nat) (a0:List (S_line_Line)) (a1:Int):Option (S_ref10_Found) :=
 if (decide (0 ≤ a1 ∧ a1 < (List.length a0:Int))) = true then ((ref10_Row n (((a0)[Int.toNat a1]?.getD (S_line_Line.mk 0 0 [])).f_Text)).bind fun r1 =>
 if r1 = true then ((ref10_row R_ref10_Block n a0 a1).bind fun r2 =>
 some r2)
 else ((ref10_Entry n (((a0)[Int.toNat a1]?.getD (S_line_Line.mk 0 0 [])).f_Text)).bind fun r3 =>
 if (decide (r3.2.2 < 0)) = true then (lett (ref10_wrong (((a0)[Int.toNat a1]?.getD (S_line_Line.mk 0 0 [])).f_No) 3) fun r4 =>
 some r4)
 else (if (decide (r3.2.2 > 0)) = true then ((ref10_pairs R_ref10_Block n a0 a1).bind fun r5 =>
 some r5)
 else ((ref10_value n (((a0)[Int.toNat a1]?.getD (S_line_Line.mk 0 0 [])).f_Text) (((a0)[Int.toNat a1]?.getD (S_line_Line.mk 0 0 [])).f_No) (IntKind.wrap .i64 (a1 + 1))).bind fun r6 =>
 some r6)))) else none
abbrev ex98 (x0:List (S_line_Line)) (x1:Int):Nat × Nat × List D:=(5,57,[vi ((ex63 x0 x1).f_No),vi ((ex63 x0 x1).f_Indent),.str ((ex63 x0 x1).f_Text)])
theorem ok_ref10_Block_b (R_ref10_Block:(List (S_line_Line)) → Int → Option (S_ref10_Found)) (hR_ref10_Block:hR27 R_ref10_Block) (n:Nat) (a0:List (S_line_Line)) (a1:Int) (r:S_ref10_Found) (h:ref10_Block_b R_ref10_Block n a0 a1 = some r):CallsX Tryz.prog 28 [rs24 a0,vi a1] (.agg (qc26 r)):=by
 unfold ref10_Block_b at h
 refine xo Tryz.f28 rfl fun F0 w0 _=>?_
 refine Wp.seq (rg [0,1,4] [4] [(0,rs24 a0),(1,vi a1),(4,.own 4 0)] [(4,55,[vi 0,.str [],.val (.slice none 0 0),.val (.slice none 0 0),vi 0,vi 0,vi 0])] (To.thenN (Wp.seq ?_)))
 obtain ⟨hc7,h⟩:=chk_of h
 refine r0 [0,1,4,5] [4,5] [(0,rs24 a0),(1,vi a1),(4,.own 4 0),(5,.own 5 0)] [(4,55,[vi 0,.str [],.val (.slice none 0 0),.val (.slice none 0 0),vi 0,vi 0,vi 0]),(ex98 a0 a1)] (AllP.cons hc7 AllP.nil) (To.thenN (Wp.seq (Wp.seq ?_)))
 obtain ⟨r1,hr1,h⟩:=bind_of h
 refine rc [] 2 [0,1,4,5,15] [4,5] [(0,rs24 a0),(1,vi a1),(4,.own 4 0),(5,.own 5 0),(15,vb r1)] [(4,55,[vi 0,.str [],.val (.slice none 0 0),.val (.slice none 0 0),vi 0,vi 0,vi 0]),(ex98 a0 a1)] (ok_ref10_Row n ((ex63 a0 a1).f_Text) _ hr1) (To.thenN (cn h (fun h=>?_) (fun h=>?_)))
 ·refine Wp.seq ?_
  obtain ⟨r2,hr2,h⟩:=bind_of h
  refine rc [] 2 [4] [4] [(4,.own 4 0)] [(4,55,(E_ref10_Found r2))] (ok_ref10_row R_ref10_Block hR_ref10_Block n a0 a1 _ hr2) (To.thenN (Wp.ret (To.thenR ?_)))
  cases h
  exact To.done hΓ (by kernel_rfl)
 ·refine Wp.skip (To.thenN (Wp.seq ?_))
  obtain ⟨r3,hr3,h⟩:=bind_of h
  refine rc [] 2 [0,1,4,5,8] [4,5] [(0,rs24 a0),(1,vi a1),(4,.own 4 0),(5,.own 5 0),(8,vi r3.2.2)] [(4,55,[vi 0,.str [],.val (.slice none 0 0),.val (.slice none 0 0),vi 0,vi 0,vi 0]),(ex98 a0 a1)] (ok_ref10_Entry n ((ex63 a0 a1).f_Text) _ hr3) (To.thenN (Wp.seq (Wp.seq (rg [0,1,4,5,8,27] [4,5] [(0,rs24 a0),(1,vi a1),(4,.own 4 0),(5,.own 5 0),(8,vi r3.2.2),(27,vb (decide (r3.2.2 < 0)))] [(4,55,[vi 0,.str [],.val (.slice none 0 0),.val (.slice none 0 0),vi 0,vi 0,vi 0]),(ex98 a0 a1)] (To.thenN (cn h (fun h=>?_) (fun h=>?_)))))))
  ·refine Wp.seq ?_
   obtain ⟨r4,hr4,h⟩:=lett_of h
   refine rc [] 2 [4] [4] [(4,.own 4 0)] [(4,55,(E_ref10_Found r4))] (ok_ref10_wrong ((ex63 a0 a1).f_No) 3 _ hr4) (To.thenN (Wp.ret (To.thenR ?_)))
   cases h
   exact To.done hΓ (by kernel_rfl)
  ·refine Wp.skip (To.thenN (Wp.seq (Wp.seq (rg [0,1,4,5,32] [4,5] [(0,rs24 a0),(1,vi a1),(4,.own 4 0),(5,.own 5 0),(32,vb (decide (r3.2.2 > 0)))] [(4,55,[vi 0,.str [],.val (.slice none 0 0),.val (.slice none 0 0),vi 0,vi 0,vi 0]),(ex98 a0 a1)] (To.thenN (cn h (fun h=>?_) (fun h=>?_)))))))
   ·refine Wp.seq ?_
    obtain ⟨r5,hr5,h⟩:=bind_of h
    refine rc [] 2 [4] [4] [(4,.own 4 0)] [(4,55,(E_ref10_Found r5))] (ok_ref10_pairs R_ref10_Block hR_ref10_Block n a0 a1 _ hr5) (To.thenN (Wp.ret (To.thenR ?_)))
    cases h
    exact To.done hΓ (by kernel_rfl)
   ·refine Wp.skip (To.thenN (Wp.seq ?_))
    obtain ⟨r6,hr6,h⟩:=bind_of h
    refine rc [] 6 [4] [4] [(4,.own 4 0)] [(4,55,(E_ref10_Found r6))] (ok_ref10_value n ((ex63 a0 a1).f_Text) ((ex63 a0 a1).f_No) (IntKind.wrap .i64 (a1 + 1)) _ hr6) (To.thenN (Wp.ret ?_))
    cases h
    exact To.done hΓ (by kernel_rfl)
def ref10_Block:Nat → (List (S_line_Line)) → Int → Option (S_ref10_Found)
 | 0=>fun _ _=>none
 | n + 1=>ref10_Block_b (ref10_Block n) n
theorem ok_ref10_Block (n:Nat):∀ (a0:List (S_line_Line)) (a1:Int) (r:S_ref10_Found),ref10_Block n a0 a1 = some r → CallsX Tryz.prog 28 [rs24 a0,vi a1] (.agg (qc26 r)):=by
 induction n with
 | zero=>intro a0 a1 r h; cases h
 | succ n ih=>exact fun a0 a1 r h=>ok_ref10_Block_b (ref10_Block n) ih n a0 a1 r h
def ref10_Parse (n:Nat) (a0:List UInt8):Option (S_api_Node × Int × Int) :=
 (ref07_Split n a0).bind fun r1 =>
 if (r1.2.2 != 0) = true then (some ((S_api_Node.mk 0 [] [] []),r1.2.1,r1.2.2))
 else (if ((List.length r1.1:Int) == 0) = true then (some ((S_api_Node.mk 0 [] [] []),0,0))
 else ((ref10_Block n r1.1 0).bind fun r2 =>
 if (r2.f_E != 0) = true then (some ((S_api_Node.mk 0 [] [] []),r2.f_No,r2.f_E))
 else (if (decide (r2.f_Next < (List.length r1.1:Int))) = true then (if (decide (0 ≤ r2.f_Next ∧ r2.f_Next < (List.length r1.1:Int))) = true then (some ((S_api_Node.mk 0 [] [] []),((r1.1)[Int.toNat r2.f_Next]?.getD (S_line_Line.mk 0 0 [])).f_No,3)) else none)
 else ((ref08_Right n r2.f_N).bind fun r4 =>
 if (!r4) = true then (some ((S_api_Node.mk 0 [] [] []),0,9))
 else (some (r2.f_N,0,0))))))
theorem ok_ref10_Parse (n:Nat) (a0:List UInt8) (r:S_api_Node × Int × Int) (h:ref10_Parse n a0 = some r):CallsX Tryz.prog 10 [.str a0] (.tup [.agg (qc9 r.1),vi r.2.1,vi r.2.2]):=by
 unfold ref10_Parse at h
 refine xo Tryz.f10 rfl fun F0 w0 _=>?_
 refine Wp.seq (rg [0,2] [2] [(0,.str a0),(2,.own 2 0)] [(2,26,[vi 0,.str [],.val (.slice none 0 0),.val (.slice none 0 0)])] (To.thenN (Wp.seq ?_)))
 obtain ⟨r1,hr1,h⟩:=bind_of h
 refine rc [] 1 [2,5,6,7] [2] [(2,.own 2 0),(5,rs24 r1.1),(6,vi r1.2.1),(7,vi r1.2.2)] [(2,26,[vi 0,.str [],.val (.slice none 0 0),.val (.slice none 0 0)])] (ok_ref07_Split n a0 _ hr1) (To.thenN (Wp.seq (Wp.seq (rg [2,5,6,7,16] [2] [(2,.own 2 0),(5,rs24 r1.1),(6,vi r1.2.1),(7,vi r1.2.2),(16,vb (r1.2.2 != 0))] [(2,26,[vi 0,.str [],.val (.slice none 0 0),.val (.slice none 0 0)])] (To.thenN (cn h (fun h=>?_) (fun h=>?_)))))))
 ·refine Wp.seq (rg [2,3,4] [2] [(2,.own 2 0),(3,vi r1.2.1),(4,vi r1.2.2)] [(2,26,[vi 0,.str [],.val (.slice none 0 0),.val (.slice none 0 0)])] (To.thenN (Wp.ret (To.thenR (To.weak (K':=[(2,.own 2 0),(3,vi r1.2.1),(4,vi r1.2.2)]) (L':=[(2,26,[vi 0,.str [],ls [],tn8 []])]) (.cons (.refl _) (.cons (.refl _) (.cons (.refl _) .nil))) (.cons (.cons (.refl _) (.cons (.refl _) (.cons (.zero _ _) (.cons (.zeroT _ _ _) .nil)))) .nil) ?_)))))
  cases h
  exact To.done hΓ (by kernel_rfl)
 ·refine Wp.skip (To.thenN (Wp.seq (Wp.seq (rg [2,5,22] [2] [(2,.own 2 0),(5,rs24 r1.1),(22,vb ((List.length r1.1:Int) == 0))] [(2,26,[vi 0,.str [],.val (.slice none 0 0),.val (.slice none 0 0)])] (To.thenN (cn h (fun h=>?_) (fun h=>?_)))))))
  ·refine Wp.seq (rg [2,3,4] [2] [(2,.own 2 0),(3,vi 0),(4,vi 0)] [(2,26,[vi 0,.str [],.val (.slice none 0 0),.val (.slice none 0 0)])] (To.thenN (Wp.ret (To.thenR (To.weak (K':=[(2,.own 2 0),(3,vi 0),(4,vi 0)]) (L':=[(2,26,[vi 0,.str [],ls [],tn8 []])]) (.cons (.refl _) (.cons (.refl _) (.cons (.refl _) .nil))) (.cons (.cons (.refl _) (.cons (.refl _) (.cons (.zero _ _) (.cons (.zeroT _ _ _) .nil)))) .nil) ?_)))))
   cases h
   exact To.done hΓ (by kernel_rfl)
  ·refine Wp.skip (To.thenN (Wp.seq ?_))
   obtain ⟨r2,hr2,h⟩:=bind_of h
   refine rc [] 1 [2,5,8] [2,8] [(2,.own 2 0),(5,rs24 r1.1),(8,.own 8 0)] [(2,26,[vi 0,.str [],.val (.slice none 0 0),.val (.slice none 0 0)]),(8,55,(E_ref10_Found r2))] (ok_ref10_Block n r1.1 0 _ hr2) (To.thenN (Wp.seq (Wp.seq (rg [2,5,8,28] [2,8] [(2,.own 2 0),(5,rs24 r1.1),(8,.own 8 0),(28,vb (r2.f_E != 0))] [(2,26,[vi 0,.str [],.val (.slice none 0 0),.val (.slice none 0 0)]),(8,55,(E_ref10_Found r2))] (To.thenN (cn h (fun h=>?_) (fun h=>?_)))))))
   ·refine Wp.seq (Wp.regionD hm hΓ [] [2,3,4] [2] (K':=[(2,.own 2 0),(3,vi r2.f_No),(4,vi r2.f_E)]) (L':=[(2,26,[vi 0,.str [],.val (.slice none 0 0),.val (.slice none 0 0)])]) (ob:=[]) (by kernel_rfl) AllP.nil (To.thenN (Wp.ret (To.thenR (kt [2,3,4] [2] [(2,.own 2 0),(3,vi r2.f_No),(4,vi r2.f_E)] [(2,26,[vi 0,.str [],.val (.slice none 0 0),.val (.slice none 0 0)])] (To.weak (K':=[(2,.own 2 0),(3,vi r2.f_No),(4,vi r2.f_E)]) (L':=[(2,26,[vi 0,.str [],ls [],tn8 []])]) (.cons (.refl _) (.cons (.refl _) (.cons (.refl _) .nil))) (.cons (.cons (.refl _) (.cons (.refl _) (.cons (.zero _ _) (.cons (.zeroT _ _ _) .nil)))) .nil) ?_))))))
    cases h
    exact To.done hΓ (by kernel_rfl)
   ·refine Wp.skip (To.thenN (Wp.seq (Wp.seq (rg [2,5,8,38] [2,8] [(2,.own 2 0),(5,rs24 r1.1),(8,.own 8 0),(38,vb (decide (r2.f_Next < (List.length r1.1:Int))))] [(2,26,[vi 0,.str [],.val (.slice none 0 0),.val (.slice none 0 0)]),(8,55,(E_ref10_Found r2))] (To.thenN (cn h (fun h=>?_) (fun h=>?_)))))))
    ·refine Wp.seq ?_
     obtain ⟨hc3,h⟩:=chk_of h
     refine Wp.regionD hm hΓ [] [2,3,4] [2] (K':=[(2,.own 2 0),(3,vi (((r1.1)[Int.toNat r2.f_Next]?.getD zx4).f_No)),(4,vi 3)]) (L':=[(2,26,[vi 0,.str [],.val (.slice none 0 0),.val (.slice none 0 0)])]) (ob:=[(decide (0 ≤ r2.f_Next ∧ r2.f_Next < (List.length r1.1:Int))) = true]) (by kernel_rfl) (AllP.cons hc3 AllP.nil) (To.thenN (Wp.ret (To.thenR (kt [2,3,4] [2] [(2,.own 2 0),(3,vi (((r1.1)[Int.toNat r2.f_Next]?.getD zx4).f_No)),(4,vi 3)] [(2,26,[vi 0,.str [],.val (.slice none 0 0),.val (.slice none 0 0)])] (To.weak (K':=[(2,.own 2 0),(3,vi (((r1.1)[Int.toNat r2.f_Next]?.getD zx4).f_No)),(4,vi 3)]) (L':=[(2,26,[vi 0,.str [],ls [],tn8 []])]) (.cons (.refl _) (.cons (.refl _) (.cons (.refl _) .nil))) (.cons (.cons (.refl _) (.cons (.refl _) (.cons (.zero _ _) (.cons (.zeroT _ _ _) .nil)))) .nil) ?_)))))
     cases h
     exact To.done hΓ (by kernel_rfl)
    ·refine Wp.skip (To.thenN (Wp.seq (Wp.seq ?_)))
     obtain ⟨r4,hr4,h⟩:=bind_of h
     refine rc [] 2 [2,8,49] [2,8] [(2,.own 2 0),(8,.own 8 0),(49,vb (!r4))] [(2,26,[vi 0,.str [],.val (.slice none 0 0),.val (.slice none 0 0)]),(8,55,(E_ref10_Found r2))] (ok_ref08_Right n r2.f_N _ hr4) (To.thenN (cn h (fun h=>?_) (fun h=>?_)))
     ·refine Wp.seq (rg [2,3,4] [2] [(2,.own 2 0),(3,vi 0),(4,vi 9)] [(2,26,[vi 0,.str [],.val (.slice none 0 0),.val (.slice none 0 0)])] (To.thenN (Wp.ret (To.thenR (To.weak (K':=[(2,.own 2 0),(3,vi 0),(4,vi 9)]) (L':=[(2,26,[vi 0,.str [],ls [],tn8 []])]) (.cons (.refl _) (.cons (.refl _) (.cons (.refl _) .nil))) (.cons (.cons (.refl _) (.cons (.refl _) (.cons (.zero _ _) (.cons (.zeroT _ _ _) .nil)))) .nil) ?_)))))
      cases h
      exact To.done hΓ (by kernel_rfl)
     ·refine Wp.skip (To.thenN (Wp.seq (rg [2,3,4] [2] [(2,.own 2 0),(3,vi 0),(4,vi 0)] [(2,26,[vi r2.f_N.f_Kind,.str r2.f_N.f_Text,ls r2.f_N.f_Keys,tn8 r2.f_N.f_Kids])] (To.thenN (Wp.ret ?_)))))
      cases h
      exact To.done hΓ (by kernel_rfl)
def ref02_Same_l1 (n:Nat) (v0:List (List UInt8)) (v1:List (List UInt8)):Nat → Int → Option (Sum (Unit) (Bool))
 | 0,_=>none
 | k + 1,v5=>if (decide (v5 < (List.length v0:Int))) = true then (if (decide (0 ≤ v5 ∧ v5 < (List.length v0:Int))) = true then (if (decide (0 ≤ v5 ∧ v5 < (List.length v1:Int))) = true then (if (!(((v0)[Int.toNat v5]?.getD []) == ((v1)[Int.toNat v5]?.getD []))) = true then (some (.inr false))
 else (ref02_Same_l1 n v0 v1 k (IntKind.wrap .i64 (v5 + 1)))) else none) else none)
 else (some (.inl ()))
theorem ok_ref02_Same_l1 (n:Nat) (v0:List (List UInt8)) (v1:List (List UInt8)) {F0:Fz} {w0:Pt Tryz.prog} {Q:Exit → Act → World → Prop} (k:Nat):∀ (v5:Int) (o:Sum (Unit) (Bool)),ref02_Same_l1 n v0 v1 k v5 = some o → (Sum.elim (fun s=>To 26 F0 w0 [] [] (.exit 0) Q) (fun s=>To 26 F0 w0 [(4,vb s)] [] .ret Q)) o → WL Tryz.prog 26 F0 w0 [(0,ls v0),(1,ls v1),(5,vi v5)] [] (cI (cI (cB (cA (cB (cB (cF Tryz.f30))))))) Q:=by
 induction k with
 | zero=>intro v5 o h; cases h
 | succ k ih =>
  intro v5 o h hQ
  rw [ref02_Same_l1] at h
  refine WL.round (Wp.seq (Wp.seq (rg [0,1,5,14] [] [(0,ls v0),(1,ls v1),(5,vi v5),(14,vb (decide (v5 < (List.length v0:Int))))] [] (To.thenN (cn h (fun h=>?_) (fun h=>?_))))))
  ·refine Wp.skip (To.thenN (Wp.seq (Wp.block (Wp.seq ?_))))
   obtain ⟨hc1,h⟩:=chk_of h
   obtain ⟨hc2,h⟩:=chk_of h
   refine Wp.regionD hm hΓ [] [0,1,5,25] [] (K':=[(0,ls v0),(1,ls v1),(5,vi v5),(25,vb (!(((v0)[Int.toNat v5]?.getD []) == ((v1)[Int.toNat v5]?.getD []))))]) (L':=[]) (ob:=[(decide (ex45 v5 v0)) = true,(decide (ex45 v5 v1)) = true]) (by kernel_rfl) (AllP.cons hc1 (AllP.cons hc2 AllP.nil)) (To.thenN (cn h (fun h=>?_) (fun h=>?_)))
   ·refine Wp.seq (rg [4] [] [(4,vb false)] [] (To.thenN (Wp.ret (To.blockR (To.thenR (To.thenR ?_))))))
    cases h
    exact hQ
   ·refine Wp.skip (To.blockN (To.thenN (rg [0,1,5] [] [(0,ls v0),(1,ls v1),(ex12 v5)] [] (kt [0,1,5] [] [(0,ls v0),(1,ls v1),(ex12 v5)] [] (To.again ?_)))))
    exact ih (IntKind.wrap .i64 (v5 + 1)) _ h hQ
  ·refine Wp.exit (To.thenX (To.thenX (kt [] [] [] [] ?_)))
   cases h
   exact hQ
def ref02_Same (n:Nat) (a0:List (List UInt8)) (a1:List (List UInt8)):Option (Bool) :=
 if ((List.length a0:Int) != (List.length a1:Int)) = true then some false
 else ((ref02_Same_l1 n a0 a1 n 0).bind fun o1 =>
 (Sum.elim (fun o1=>some true) (fun o1=>some o1)) o1)
theorem ok_ref02_Same (n:Nat) (a0:List (List UInt8)) (a1:List (List UInt8)) (r:Bool) (h:ref02_Same n a0 a1 = some r):CallsX Tryz.prog 30 [ls a0,ls a1] (vb r):=by
 unfold ref02_Same at h
 refine xo Tryz.f30 rfl fun F0 w0 _=>?_
 refine Wp.seq (rg [0,1] [] [(0,ls a0),(1,ls a1)] [] (To.thenN (Wp.seq (Wp.seq (rg [0,1,10] [] [(0,ls a0),(1,ls a1),(10,vb ((List.length a0:Int) != (List.length a1:Int)))] [] (To.thenN (cn h (fun h=>?_) (fun h=>?_))))))))
 ·refine Wp.seq (rg [4] [] [(4,vb false)] [] (To.thenN (Wp.ret (To.thenR ?_))))
  cases h
  exact To.done hΓ (by kernel_rfl)
 ·refine Wp.skip (To.thenN (Wp.seq (Wp.seq (rg [0,1,5] [] [(0,ls a0),(1,ls a1),(5,vi 0)] [] (To.thenN (Wp.block ?_))))))
  obtain ⟨o1,ho1,h⟩:=bind_of h
  refine kw [0,1,5] [] [(0,ls a0),(1,ls a1),(5,vi 0)] [] (Wp.loopL (ok_ref02_Same_l1 n a0 a1 n 0 o1 ho1 ?_))
  rcases o1 with o1 | o1
  ·replace h:=sum_l h
   refine To.blockX (To.thenN (Wp.seq (rg [4] [] [(4,vb true)] [] (To.thenN (Wp.ret ?_)))))
   cases h
   exact To.done hΓ (by kernel_rfl)
  ·replace h:=sum_r h
   refine To.blockR (To.thenR ?_)
   cases h
   exact To.done hΓ (by kernel_rfl)
def ref08_Same_l1 (R_ref08_Same:S_api_Node → S_api_Node → Option (Bool)) (n:Nat) (b2:S_api_Node) (b3:S_api_Node):Nat → Int → Option (Sum (Unit) (Bool))
 | 0,_=>none
 | k + 1,v5=>if (decide (v5 < (List.length b2.f_Kids:Int))) = true then (if (decide (0 ≤ v5 ∧ v5 < (List.length b2.f_Kids:Int))) = true then (if (decide (0 ≤ v5 ∧ v5 < (List.length b3.f_Kids:Int))) = true then ((R_ref08_Same ((b2.f_Kids)[Int.toNat v5]?.getD (S_api_Node.mk 0 [] [] [])) ((b3.f_Kids)[Int.toNat v5]?.getD (S_api_Node.mk 0 [] [] []))).bind fun r3 =>
 if (!r3) = true then (some (.inr false))
 else (ref08_Same_l1 R_ref08_Same n b2 b3 k (IntKind.wrap .i64 (v5 + 1)))) else none) else none)
 else (some (.inl ()))
end Go.Proofs.YtefojkdckfidcaaGreatDoor.M
