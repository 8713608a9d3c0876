import Derived.Test.YtefojkdckfidcaaGreatDoorQMG10c
set_option linter.all false
namespace Go.Proofs.YtefojkdckfidcaaGreatDoor.M
open Go.RowKit Go.Proofs.YtefojkdckfidcaaGreatDoor.RX
set_option maxRecDepth 100000
theorem ok_block_reader_pairs__o0_l1 (R_block_reader_block__o0_s2:S_block_reader → Option (S_api_Node × S_block_reader)) (hR_block_reader_block__o0_s2:hR11 R_block_reader_block__o0_s2) (n:Nat) (v1:Int) {F0:Fz} {w0:Pt Tryz.prog} {Q:Exit → Act → World → Prop} (k:Nat):∀ (b4:S_api_Node) (b5:S_api_Node) (b1000000:S_block_reader) (o:Sum (S_api_Node × S_api_Node × S_block_reader) (S_api_Node × S_block_reader)),block_reader_pairs__o0_l1 R_block_reader_block__o0_s2 n v1 k b4 b5 b1000000 = some o → (Sum.elim (fun s=>To 114 F0 w0 [(4,.own 4 0),(5,.own 5 0)] [(4,26,qc9 s.1),(5,26,qc20 4302 4303 s.2.1),(4302,9,[rc21 s.2.1.f_Keys]),(4303,26,[rc12 s.2.1.f_Kids]),(504000,50,[rc5 s.2.2.f_l]),(1000000,46,qc10 504000 s.2.2)] (.exit 0) Q) (fun s=>To 114 F0 w0 [(4,.own 4 0)] [(4,26,qc9 s.1),(504000,50,[rc5 s.2.f_l]),(1000000,46,qc10 504000 s.2)] .ret Q)) o → WL Tryz.prog 114 F0 w0 [(0,.own 1000000 0),(1,vi v1),(4,.own 4 0),(5,.own 5 0)] [(4,26,qc9 b4),(5,26,qc20 4302 4303 b5),(4302,9,[rc21 b5.f_Keys]),(4303,26,[rc12 b5.f_Kids]),(ex33 b1000000),(ex34 b1000000)] (cI (cI (cA (cB (cB (cI (cB (cF Tryz.f56)))))))) Q:=by
 induction k with
 | zero=>intro b4 b5 b1000000 o h; cases h
 | succ k ih =>
  intro b4 b5 b1000000 o h hQ
  rw [block_reader_pairs__o0_l1] at h
  refine WL.round (Wp.seq (Wp.seq (Wp.regionD hm hΓ [] [0,1,4,5,28] [4,5,4302,4303,504000,1000000] (K':=[(0,.own 1000000 0),(1,vi v1),(4,.own 4 0),(5,.own 5 0),(28,vb (ex41 b1000000))]) (L':=[(4,26,qc9 b4),(5,26,qc20 4302 4303 b5),(4302,9,[rc21 b5.f_Keys]),(4303,26,[rc12 b5.f_Kids]),(ex33 b1000000),(ex34 b1000000)]) (ob:=[]) (by kernel_rfl) AllP.nil (To.thenN (cn h (fun h=>?_) (fun h=>?_))))))
  ·refine Wp.skip (To.thenN (Wp.block (Wp.seq ?_)))
   obtain ⟨hc9,h⟩:=chk_of h
   refine Wp.regionD hm hΓ [] [0,1,4,5,6] [4,5,6,4302,4303,504000,1000000] (K':=[(0,.own 1000000 0),(1,vi v1),(4,.own 4 0),(5,.own 5 0),(6,.own 6 0)]) (L':=[(4,26,qc9 b4),(5,26,qc20 4302 4303 b5),(ex35 b1000000),(4302,9,[rc21 b5.f_Keys]),(4303,26,[rc12 b5.f_Kids]),(ex33 b1000000),(ex34 b1000000)]) (ob:=[(ex37 b1000000) = true,(ex37 b1000000) = true]) (by kernel_rfl) (AllP.cons hc9 (AllP.cons hc9 AllP.nil)) (To.thenN (Wp.seq ?_))
   obtain ⟨r1,hr1,h⟩:=bind_of h
   refine rc [] 2 [0,1,4,5,6,7,8,9] [4,5,6,4302,4303,504000,1000000] [(0,.own 1000000 0),(1,vi v1),(4,.own 4 0),(5,.own 5 0),(6,.own 6 0),(7,.str r1.1),(8,.str r1.2.1),(9,vi r1.2.2)] [(4,26,qc9 b4),(5,26,qc20 4302 4303 b5),(ex35 b1000000),(4302,9,[rc21 b5.f_Keys]),(4303,26,[rc12 b5.f_Kids]),(ex33 b1000000),(ex34 b1000000)] (ok_block_Entry n ((ex86 b1000000).f_Text) _ hr1) (To.thenN (Wp.seq (Wp.block (Wp.seq ?_))))
   obtain ⟨r2,hr2,h⟩:=bind_of h
   obtain ⟨x3,hx3,h⟩:=lett_of h
   refine rr [] [(19,vb r2)] [] [0,1,4,5,6,7,8,9,46] [4,5,6,4302,4303,504000,1000000] [(0,.own 1000000 0),(1,vi v1),(4,.own 4 0),(5,.own 5 0),(6,.own 6 0),(7,.str r1.1),(8,.str r1.2.1),(9,vi r1.2.2),(46,vb (bif (ex42 b1000000 v1) then true else (bif (((ex86 b1000000).f_Indent) == v1) then (bif (decide (r1.2.2 < 0)) then true else (bif (decide (r1.2.2 > 0)) then r2 else false)) else false)))] [(4,26,qc9 b4),(5,26,qc20 4302 4303 b5),(ex35 b1000000),(4302,9,[rc21 b5.f_Keys]),(4303,26,[rc12 b5.f_Kids]),(ex33 b1000000),(ex34 b1000000)] [((((decide (r1.2.2 > 0)) == true) && (((decide (r1.2.2 < 0)) == false) && (((((ex86 b1000000).f_Indent) == v1) == true) && ((ex42 b1000000 v1) == false)))) = true → CX Tryz.prog 88 [ls b5.f_Keys,.str r1.1] (vb r2))] (AllP.cons (fun hg=>cx (ok_name_In n b5.f_Keys r1.1 _ (if_t hg hr2))) AllP.nil) (To.eq (K':=[(0,.own 1000000 0),(1,vi v1),(4,.own 4 0),(5,.own 5 0),(6,.own 6 0),(7,.str r1.1),(8,.str r1.2.1),(9,vi r1.2.2),(46,vb x3)]) (L':=[(4,26,qc9 b4),(5,26,qc20 4302 4303 b5),(ex35 b1000000),(4302,9,[rc21 b5.f_Keys]),(4303,26,[rc12 b5.f_Kids]),(ex33 b1000000),(ex34 b1000000)]) (by cases hx3; rfl) (by cases hx3; rfl) (To.thenN (cn h (fun h=>?_) (fun h=>?_))))
   ·refine Wp.seq ?_
    obtain ⟨r4,hr4,h⟩:=lett_of h
    refine rb [] 3 ⟨[(1000000,1000000),(1010000,504000)],[(200,504000),(1000000,1000000)],[.own 1000000 0,vi ((ex86 b1000000).f_No),vi 3],[(ex38 b1000000),(ex39 b1000000)],.agg (qc9 r4.1),[(200,50,[rc5 r4.2.f_l]),(1000000,46,qc10 200 r4.2)]⟩ [4] [4,504000,1000000] [(4,.own 4 0)] [(4,26,qc9 r4.1),(504000,50,[rc5 r4.2.f_l]),(1000000,46,qc10 504000 r4.2)] ((ok_block_reader_fail__o0_s2 ((ex86 b1000000).f_No) 3 b1000000 _ hr4)) (To.thenN (Wp.ret (To.blockR (To.thenR (To.blockR (To.thenR ?_))))))
    cases h
    exact hQ
   ·refine Wp.seq ?_
    obtain ⟨x5,hx5,h⟩:=lett_of h
    refine rg [0,1,4,5,6,7,8,75] [4,5,6,4302,4303,504000,1000000] [(0,.own 1000000 0),(1,vi v1),(4,.own 4 0),(5,.own 5 0),(6,.own 6 0),(7,.str r1.1),(8,.str r1.2.1),(75,vb (bif (decide (((ex86 b1000000).f_Indent) < v1)) then true else (r1.2.2 == 0)))] [(4,26,qc9 b4),(5,26,qc20 4302 4303 b5),(ex35 b1000000),(4302,9,[rc21 b5.f_Keys]),(4303,26,[rc12 b5.f_Kids]),(ex33 b1000000),(ex34 b1000000)] (To.eq (K':=[(0,.own 1000000 0),(1,vi v1),(4,.own 4 0),(5,.own 5 0),(6,.own 6 0),(7,.str r1.1),(8,.str r1.2.1),(75,vb x5)]) (L':=[(4,26,qc9 b4),(5,26,qc20 4302 4303 b5),(ex35 b1000000),(4302,9,[rc21 b5.f_Keys]),(4303,26,[rc12 b5.f_Kids]),(ex33 b1000000),(ex34 b1000000)]) (by cases hx5; rfl) (by cases hx5; rfl) (To.thenN (cn h (fun h=>?_) (fun h=>?_))))
    ·refine Wp.exit (To.blockO (by decide) (To.thenX (To.blockO (by decide) (To.thenX (kt [4,5] [4,5,4302,4303,504000,1000000] [(4,.own 4 0),(5,.own 5 0)] [(4,26,qc9 b4),(5,26,qc20 4302 4303 b5),(4302,9,[rc21 b5.f_Keys]),(4303,26,[rc12 b5.f_Kids]),(ex33 b1000000),(ex34 b1000000)] ?_)))))
     cases h
     exact hQ
    ·refine Wp.skip (To.blockN (To.thenN (Wp.seq (rg [0,1,4,5,6,7,8] [4,5,6,4302,4303,504000,1000000] [(0,.own 1000000 0),(1,vi v1),(4,.own 4 0),(5,.own 5 0),(6,.own 6 0),(7,.str r1.1),(8,.str r1.2.1)] [(4,26,qc9 b4),(5,26,qc20 4302 4303 b5),(ex35 b1000000),(4302,9,[rc21 b5.f_Keys]),(4303,26,[rc12 b5.f_Kids]),(ex33 b1000000),(ex36 b1000000)] (To.thenN (Wp.seq (rg [0,1,4,5,6,7,8,10] [4,5,6,10,4302,4303,504000,1000000] [(0,.own 1000000 0),(1,vi v1),(4,.own 4 0),(5,.own 5 0),(6,.own 6 0),(7,.str r1.1),(8,.str r1.2.1),(10,.own 10 0)] [(4,26,qc9 b4),(5,26,qc20 4302 4303 b5),(ex35 b1000000),(10,26,[vi 0,.str [],.val (.slice none 0 0),.val (.slice none 0 0)]),(4302,9,[rc21 b5.f_Keys]),(4303,26,[rc12 b5.f_Kids]),(ex33 b1000000),(ex36 b1000000)] (To.thenN (Wp.seq (Wp.seq ?_))))))))))
     refine rg [0,1,4,5,6,7,8,10,92] [4,5,6,10,4302,4303,504000,1000000] [(0,.own 1000000 0),(1,vi v1),(4,.own 4 0),(5,.own 5 0),(6,.own 6 0),(7,.str r1.1),(8,.str r1.2.1),(10,.own 10 0),(92,vb (!(r1.2.1 == [])))] [(4,26,qc9 b4),(5,26,qc20 4302 4303 b5),(ex35 b1000000),(10,26,[vi 0,.str [],.val (.slice none 0 0),.val (.slice none 0 0)]),(4302,9,[rc21 b5.f_Keys]),(4303,26,[rc12 b5.f_Kids]),(ex33 b1000000),(ex36 b1000000)] (To.thenN ?_)
     obtain ⟨o6,ho6,h⟩:=bind_of h
     refine kw [0,1,4,5,6,7,8,10,92] [4,5,6,10,4302,4303,504000,1000000] [(0,.own 1000000 0),(1,vi v1),(4,.own 4 0),(5,.own 5 0),(6,.own 6 0),(7,.str r1.1),(8,.str r1.2.1),(10,.own 10 0),(92,vb (!(r1.2.1 == [])))] [(4,26,qc9 b4),(5,26,qc20 4302 4303 b5),(ex35 b1000000),(10,26,[vi 0,.str [],.val (.slice none 0 0),.val (.slice none 0 0)]),(4302,9,[rc21 b5.f_Keys]),(4303,26,[rc12 b5.f_Kids]),(ex33 b1000000),(ex36 b1000000)] (Wp.weak (K':=[(0,.own 1000000 0),(1,vi v1),(4,.own 4 0),(5,.own 5 0),(6,.own 6 0),(7,.str r1.1),(8,.str r1.2.1),(10,.own 10 0),(92,vb (!(r1.2.1 == [])))]) (L':=[(4,26,qc9 b4),(5,26,qc20 4302 4303 b5),(ex35 b1000000),(10,26,[vi 0,.str [],ls [],tn8 []]),(4302,9,[rc21 b5.f_Keys]),(4303,26,[rc12 b5.f_Kids]),(ex33 b1000000),(ex36 b1000000)]) (.cons (.refl _) (.cons (.refl _) (.cons (.refl _) (.cons (.refl _) (.cons (.refl _) (.cons (.refl _) (.cons (.refl _) (.cons (.refl _) (.cons (.refl _) .nil))))))))) (.cons (.cons (.refl _) (.cons (.refl _) (.cons (.refl _) (.cons (.refl _) .nil)))) (.cons (.cons (.refl _) (.cons (.refl _) (.cons (.refl _) (.cons (.refl _) .nil)))) (.cons (.cons (.refl _) (.cons (.refl _) (.cons (.refl _) .nil))) (.cons (.cons (.refl _) (.cons (.refl _) (.cons (.zero _ _) (.cons (.zeroT _ _ _) .nil)))) (.cons (.cons (.refl _) .nil) (.cons (.cons (.refl _) .nil) (.cons (.cons (.refl _) .nil) (.cons (.cons (.refl _) (.cons (.refl _) (.cons (.refl _) (.cons (.refl _) .nil)))) .nil)))))))) (ok_block_reader_pairs__o0_j2 R_block_reader_block__o0_s2 hR_block_reader_block__o0_s2 n v1 r1.1 r1.2.1 (!(r1.2.1 == [])) b4 b5 (ex86 b1000000) zx7 (ex43 b1000000) o6 ho6 (To.thenN ?_)))
     obtain ⟨hc7,h⟩:=chk_of h
     obtain ⟨hc8,h⟩:=chk_of h
     refine Wp.regionO hm hΓ [] [(3,ls [r1.1]),(4,ls (b5.f_Keys ++ ([r1.1]:List (List UInt8)))),(8,rs13 [o6.1]),(9,rs13 (b5.f_Kids ++ ([o6.1]:List (S_api_Node))))] [] [0,1,4,5,7,10,101,102,103,104,105,106,107,108,109,110,111,112] [4,5,10,104,105,109,110,4302,4303,504000,1000000] [0,1,4,5] [4,5,105,110,504000,1000000] (K':=[(0,.own 1000000 0),(1,vi v1),(4,.own 4 0),(5,.own 5 0)]) (L':=[(4,26,qc9 b4),(5,26,qc20 105 110 b5),(105,9,[rc21 (b5.f_Keys ++ ([r1.1]:List (List UInt8)))]),(110,26,[rc12 (b5.f_Kids ++ ([o6.1]:List (S_api_Node)))]),(504000,50,[rc5 o6.2.f_l]),(1000000,46,qc10 504000 o6.2)]) (ob:=[(MkOb 1 [.str r1.1] 1 (ls [r1.1]) ∧ GoodR (ls [r1.1])),(decide ((List.length b5.f_Keys + List.length ([r1.1]:List (List UInt8))) * (16 + 1) ≤ limit)) = true,(AppOb [] E_string b5.f_Keys (List.flatMap E_string ([r1.1]:List (List UInt8))) (List.length ([r1.1]:List (List UInt8))) (ls (b5.f_Keys ++ ([r1.1]:List (List UInt8)))) ∧ GoodR (ls (b5.f_Keys ++ ([r1.1]:List (List UInt8))))),(MkOb 4 (qc9 o6.1) 1 (rs13 [o6.1]) ∧ GoodR (rs13 [o6.1])),(decide ((List.length b5.f_Kids + List.length ([o6.1]:List (S_api_Node))) * (72 + 1) ≤ limit)) = true,(AppOb zx7 E_api_Node b5.f_Kids (List.flatMap E_api_Node ([o6.1]:List (S_api_Node))) (List.length ([o6.1]:List (S_api_Node))) (rs13 (b5.f_Kids ++ ([o6.1]:List (S_api_Node)))) ∧ GoodR (rs13 (b5.f_Kids ++ ([o6.1]:List (S_api_Node)))))]) (by kernel_rfl) (by kernel_rfl) (AllP.cons (mkOb (by kernel_rfl) rfl (by kernel_rfl) (good_E_string _)) (AllP.cons hc7 (AllP.cons (appOb rfl rfl (good_E_string _)) (AllP.cons (mkOb (by kernel_rfl) rfl (by kernel_rfl) (good_E_api_Node _)) (AllP.cons hc8 (AllP.cons (appOb rfl rfl (good_E_api_Node _)) AllP.nil)))))) (To.blockN (nt [0,1,4,5] [4,5,105,110,504000,1000000] [(105,4302),(110,4303)] [0,1,4,5] [4,5,4302,4303,504000,1000000] [(0,.own 1000000 0),(1,vi v1),(4,.own 4 0),(5,.own 5 0)] [(4,26,qc9 b4),(5,26,qc20 4302 4303 b5),(4302,9,[rc21 (b5.f_Keys ++ ([r1.1]:List (List UInt8)))]),(4303,26,[rc12 (b5.f_Kids ++ ([o6.1]:List (S_api_Node)))]),(504000,50,[rc5 o6.2.f_l]),(1000000,46,qc10 504000 o6.2)] (To.again ?_)))
     exact ih b4 (S_api_Node.mk b5.f_Kind b5.f_Text (b5.f_Keys ++ ([r1.1]:List (List UInt8))) (b5.f_Kids ++ ([o6.1]:List (S_api_Node)))) o6.2 _ h hQ
  ·refine Wp.exit (To.thenX (To.thenX (kt [4,5] [4,5,4302,4303,504000,1000000] [(4,.own 4 0),(5,.own 5 0)] [(4,26,qc9 b4),(5,26,qc20 4302 4303 b5),(4302,9,[rc21 b5.f_Keys]),(4303,26,[rc12 b5.f_Kids]),(ex33 b1000000),(ex34 b1000000)] ?_)))
   cases h
   exact hQ
def block_reader_pairs__o0 (R_block_reader_block__o0_s2:S_block_reader → Option (S_api_Node × S_block_reader)) (n:Nat) (a1:Int) (h0:S_block_reader):Option (S_api_Node × S_block_reader) :=
 (block_reader_pairs__o0_l1 R_block_reader_block__o0_s2 n a1 n (S_api_Node.mk 0 [] [] []) (S_api_Node.mk 3 [] [] []) h0).bind fun o1 =>
 (Sum.elim (fun o1=>some (o1.2.1,o1.2.2)) (fun o1=>some (o1.1,o1.2))) o1
theorem ok_block_reader_pairs__o0 (R_block_reader_block__o0_s2:S_block_reader → Option (S_api_Node × S_block_reader)) (hR_block_reader_block__o0_s2:hR11 R_block_reader_block__o0_s2) (n:Nat) (a1:Int) (h0:S_block_reader) (r:S_api_Node × S_block_reader) (h:block_reader_pairs__o0 R_block_reader_block__o0_s2 n a1 h0 = some r):CallsB Tryz.prog 56 [.own 1000000 0,vi a1] [(1000000,46,qc10 1010000 h0),(1010000,50,[rc5 h0.f_l])] (.agg (qc9 r.1)) [(200,50,[rc5 r.2.f_l]),(1000000,46,qc10 200 r.2)]:=by
 unfold block_reader_pairs__o0 at h
 refine bo Tryz.f56 rfl fun F0 w0=>?_
 refine nw [0,1] [1000000,1010000] [(1010000,504000)] [0,1] [504000,1000000] [(0,.own 1000000 0),(1,vi a1)] [(504000,50,[rc5 h0.f_l]),(1000000,46,qc10 504000 h0)] (Wp.seq (rg [0,1,4] [4,504000,1000000] [(0,.own 1000000 0),(1,vi a1),(4,.own 4 0)] [(4,26,[vi 0,.str [],.val (.slice none 0 0),.val (.slice none 0 0)]),(504000,50,[rc5 h0.f_l]),(1000000,46,qc10 504000 h0)] (To.thenN (Wp.scope (Wp.seq (rg [0,1,4,5] [4,5,504000,1000000] [(0,.own 1000000 0),(1,vi a1),(4,.own 4 0),(5,.own 5 0)] [(4,26,[vi 0,.str [],.val (.slice none 0 0),.val (.slice none 0 0)]),(5,26,[vi 3,.str [],.val (.slice none 0 0),.val (.slice none 0 0)]),(504000,50,[rc5 h0.f_l]),(1000000,46,qc10 504000 h0)] (To.thenN (Wp.seq (Wp.label (To.thenN (Wp.seq (Wp.block ?_))))))))))))
 obtain ⟨o1,ho1,h⟩:=bind_of h
 refine kw [0,1,4,5] [4,5,504000,1000000] [(0,.own 1000000 0),(1,vi a1),(4,.own 4 0),(5,.own 5 0)] [(4,26,[vi 0,.str [],.val (.slice none 0 0),.val (.slice none 0 0)]),(5,26,[vi 3,.str [],.val (.slice none 0 0),.val (.slice none 0 0)]),(504000,50,[rc5 h0.f_l]),(1000000,46,qc10 504000 h0)] (Wp.pre (St.vacantB 5 2 4302 9 (good_E_string _) (by decide) (by kernel_rfl) (L':=[(4,26,[vi 0,.str [],.val (.slice none 0 0),.val (.slice none 0 0)]),(5,26,[vi 3,.str [],.row 4302,.val (.slice none 0 0)]),(504000,50,[rc5 h0.f_l]),(1000000,46,qc10 504000 h0)]) (by kernel_rfl)) (kw [0,1,4,5] [4,5,4302,504000,1000000] [(0,.own 1000000 0),(1,vi a1),(4,.own 4 0),(5,.own 5 0)] [(4,26,[vi 0,.str [],.val (.slice none 0 0),.val (.slice none 0 0)]),(5,26,[vi 3,.str [],.row 4302,.val (.slice none 0 0)]),(4302,9,[rc19 []]),(504000,50,[rc5 h0.f_l]),(1000000,46,qc10 504000 h0)] (Wp.pre (St.settle (ks:=[4302]) (kk:=[0,1,4,5]) (kl:=[4,5,4302,504000,1000000]) (K':=[(0,.own 1000000 0),(1,vi a1),(4,.own 4 0),(5,.own 5 0)]) (L':=[(4,26,[vi 0,.str [],.val (.slice none 0 0),.val (.slice none 0 0)]),(5,26,[vi 3,.str [],.row 4302,.val (.slice none 0 0)]),(4302,9,[rc21 []]),(504000,50,[rc5 h0.f_l]),(1000000,46,qc10 504000 h0)]) (by kernel_rfl)) (Wp.pre (St.vacantB 5 3 4303 26 (good_E_api_Node _) (by decide) (by kernel_rfl) (L':=[(4,26,[vi 0,.str [],.val (.slice none 0 0),.val (.slice none 0 0)]),(5,26,[vi 3,.str [],.row 4302,.row 4303]),(4302,9,[rc21 []]),(504000,50,[rc5 h0.f_l]),(1000000,46,qc10 504000 h0)]) (by kernel_rfl)) (kw [0,1,4,5] [4,5,4302,4303,504000,1000000] [(0,.own 1000000 0),(1,vi a1),(4,.own 4 0),(5,.own 5 0)] [(4,26,[vi 0,.str [],.val (.slice none 0 0),.val (.slice none 0 0)]),(5,26,[vi 3,.str [],.row 4302,.row 4303]),(4302,9,[rc21 []]),(4303,26,[rc12 []]),(504000,50,[rc5 h0.f_l]),(1000000,46,qc10 504000 h0)] (Wp.weak (K':=[(0,.own 1000000 0),(1,vi a1),(4,.own 4 0),(5,.own 5 0)]) (L':=[(4,26,[vi 0,.str [],ls [],tn8 []]),(5,26,[vi 3,.str [],.row 4302,.row 4303]),(4302,9,[rc21 []]),(4303,26,[rc12 []]),(504000,50,[rc5 h0.f_l]),(1000000,46,qc10 504000 h0)]) (.cons (.refl _) (.cons (.refl _) (.cons (.refl _) (.cons (.refl _) .nil)))) (.cons (.cons (.refl _) (.cons (.refl _) (.cons (.zero _ _) (.cons (.zeroT _ _ _) .nil)))) (.cons (.cons (.refl _) (.cons (.refl _) (.cons (.refl _) (.cons (.refl _) .nil)))) (.cons (.cons (.refl _) .nil) (.cons (.cons (.refl _) .nil) (.cons (.cons (.refl _) .nil) (.cons (.cons (.refl _) (.cons (.refl _) (.cons (.refl _) (.cons (.refl _) .nil)))) .nil)))))) (Wp.loopL (ok_block_reader_pairs__o0_l1 R_block_reader_block__o0_s2 hR_block_reader_block__o0_s2 n a1 n zx7 (S_api_Node.mk 3 [] [] []) h0 o1 ho1 ?_))))))))
 rcases o1 with o1 | o1
 ·replace h:=sum_l h
  refine To.blockX (To.thenN (Wp.seq (rg [4] [4,4302,4303,504000,1000000] [(4,.own 4 0)] [(4,26,qc20 4302 4303 o1.2.1),(4302,9,[rc21 o1.2.1.f_Keys]),(4303,26,[rc12 o1.2.1.f_Kids]),(504000,50,[rc5 o1.2.2.f_l]),(1000000,46,qc10 504000 o1.2.2)] (To.thenN (Wp.ret (To.scope (.inr (.inl rfl)) (kt [4] [4,4302,4303,504000,1000000] [(4,.own 4 0)] [(4,26,qc20 4302 4303 o1.2.1),(4302,9,[rc21 o1.2.1.f_Keys]),(4303,26,[rc12 o1.2.1.f_Kids]),(504000,50,[rc5 o1.2.2.f_l]),(1000000,46,qc10 504000 o1.2.2)] (To.pre (St.settle (ks:=[4303]) (kk:=[4]) (kl:=[4,4302,4303,504000,1000000]) (K':=[(4,.own 4 0)]) (L':=[(4,26,qc20 4302 4303 o1.2.1),(4302,9,[rc21 o1.2.1.f_Keys]),(4303,26,[rc15 o1.2.1.f_Kids]),(504000,50,[rc5 o1.2.2.f_l]),(1000000,46,qc10 504000 o1.2.2)]) (by kernel_rfl)) (To.pre (St.sealB [4] (L':=[(4,26,qc16 o1.2.1),(4302,9,[rc21 o1.2.1.f_Keys]),(4303,26,[rc15 o1.2.1.f_Kids]),(504000,50,[rc5 o1.2.2.f_l]),(1000000,46,qc10 504000 o1.2.2)]) (by kernel_rfl)) (To.weak (K':=[(4,.own 4 0)]) (L':=[(4,26,qc9 o1.2.1),(4302,9,[rc21 o1.2.1.f_Keys]),(4303,26,[rc15 o1.2.1.f_Kids]),(504000,50,[rc5 o1.2.2.f_l]),(1000000,46,qc10 504000 o1.2.2)]) (.cons (.refl _) .nil) (.cons (.cons (.refl _) (.cons (.refl _) (.cons (.refl _) (.cons (.close _ _ _ _) .nil)))) (.cons (.cons (.refl _) .nil) (.cons (.cons (.refl _) .nil) (.cons (.cons (.refl _) .nil) (.cons (.cons (.refl _) (.cons (.refl _) (.cons (.refl _) (.cons (.refl _) .nil)))) .nil))))) ?_))))))))))
  refine nt [4] [4,504000,1000000] [(504000,200)] [4] [4,200,1000000] [(4,.own 4 0)] [(4,26,qc9 o1.2.1),(200,50,[rc5 o1.2.2.f_l]),(1000000,46,qc10 200 o1.2.2)] ?_
  cases h
  exact To.doneB hΓ [200,1000000] (by kernel_rfl) (by kernel_rfl)
 ·replace h:=sum_r h
  refine To.blockR (To.thenR (To.scope (.inr (.inl rfl)) (nt [4] [4,504000,1000000] [(504000,200)] [4] [4,200,1000000] [(4,.own 4 0)] [(4,26,qc9 o1.1),(200,50,[rc5 o1.2.f_l]),(1000000,46,qc10 200 o1.2)] ?_)))
  cases h
  exact To.doneB hΓ [200,1000000] (by kernel_rfl) (by kernel_rfl)
def block_reader_block__o0_s2_j1 (R_block_reader_block__o0_s2:S_block_reader → Option (S_api_Node × S_block_reader)) (n:Nat) (v7:Int) (b2:S_api_Node) (b3:S_line_Line) (b4:S_api_Node) (b1000000:S_block_reader):Option (Sum (S_api_Node × S_api_Node × S_block_reader) (S_api_Node × S_block_reader)) :=
 if (block_Row b3.f_Text) = true then ((block_reader_row__o0_s2 R_block_reader_block__o0_s2 n b3.f_Indent b1000000).bind fun r2 =>
 some (.inl (b2,r2.1,r2.2)))
 else (if (decide (v7 > 0)) = true then ((block_reader_pairs__o0 R_block_reader_block__o0_s2 n b3.f_Indent b1000000).bind fun r3 =>
 some (.inl (b2,r3.1,r3.2)))
 else (if (decide (v7 < 0)) = true then (lett (block_reader_fail__o0_s2 b3.f_No 3 b1000000) fun r4 =>
 some (.inr (r4.1,r4.2)))
 else ((block_reader_value__o0 n b3.f_No b3.f_Text (S_block_reader.mk b1000000.f_l (IntKind.wrap .i64 (b1000000.f_at + 1)) b1000000.f_no b1000000.f_e)).bind fun r5 =>
 some (.inl (b2,r5.1,r5.2)))))
theorem ok_block_reader_block__o0_s2_j1 (R_block_reader_block__o0_s2:S_block_reader → Option (S_api_Node × S_block_reader)) (hR_block_reader_block__o0_s2:hR11 R_block_reader_block__o0_s2) (n:Nat) (v7:Int) (b2:S_api_Node) (b3:S_line_Line) (b4:S_api_Node) (b1000000:S_block_reader) (o:Sum (S_api_Node × S_api_Node × S_block_reader) (S_api_Node × S_block_reader)) (h:block_reader_block__o0_s2_j1 R_block_reader_block__o0_s2 n v7 b2 b3 b4 b1000000 = some o) {F0:Fz} {w0:Pt Tryz.prog} {Q:Exit → Act → World → Prop} (hQ:(Sum.elim (fun s=>To 61 F0 w0 [(2,.own 2 0),(4,.own 4 0)] [(2,26,qc9 s.1),(4,26,qc9 s.2.1),(504000,50,[rc5 s.2.2.f_l]),(1000000,46,qc10 504000 s.2.2)] .normal Q) (fun s=>To 61 F0 w0 [(2,.own 2 0)] [(2,26,qc9 s.1),(504000,50,[rc5 s.2.f_l]),(1000000,46,qc10 504000 s.2)] .ret Q)) o):Wp Tryz.prog 61 F0 w0 [(0,.own 1000000 0),(2,.own 2 0),(3,.own 3 0),(4,.own 4 0),(7,vi v7)] [(2,26,qc9 b2),(3,50,qc3 b3),(4,26,qc9 b4),(ex33 b1000000),(ex34 b1000000)] (cB (cA (cB (cB (cB (cF Tryz.f24)))))) Q:=by
 unfold block_reader_block__o0_s2_j1 at h
 refine Wp.block (Wp.seq (rc [] 2 [0,2,3,4,7,38] [2,3,4,504000,1000000] [(0,.own 1000000 0),(2,.own 2 0),(3,.own 3 0),(4,.own 4 0),(7,vi v7),(38,vb (block_Row b3.f_Text))] [(2,26,qc9 b2),(3,50,qc3 b3),(4,26,qc9 b4),(ex33 b1000000),(ex34 b1000000)] (ok_block_Row b3.f_Text _ rfl) (To.thenN (cn h (fun h=>?_) (fun h=>?_)))))
 ·obtain ⟨r2,hr2,h⟩:=bind_of h
  refine rb [] 3 ⟨[(1000000,1000000),(1010000,504000)],[(200,504000),(1000000,1000000)],[.own 1000000 0,vi b3.f_Indent],[(ex38 b1000000),(ex39 b1000000)],.agg (qc9 r2.1),[(200,50,[rc5 r2.2.f_l]),(1000000,46,qc10 200 r2.2)]⟩ [2,4] [2,4,504000,1000000] [(2,.own 2 0),(4,.own 4 0)] [(2,26,qc9 b2),(4,26,qc9 r2.1),(504000,50,[rc5 r2.2.f_l]),(1000000,46,qc10 504000 r2.2)] ((ok_block_reader_row__o0_s2 R_block_reader_block__o0_s2 hR_block_reader_block__o0_s2 n b3.f_Indent b1000000 _ hr2)) (To.blockN ?_)
  cases h
  exact hQ
 ·refine Wp.seq (rg [0,2,3,4,7,46] [2,3,4,504000,1000000] [(0,.own 1000000 0),(2,.own 2 0),(3,.own 3 0),(4,.own 4 0),(7,vi v7),(46,vb (decide (v7 > 0)))] [(2,26,qc9 b2),(3,50,qc3 b3),(4,26,qc9 b4),(ex33 b1000000),(ex34 b1000000)] (To.thenN (cn h (fun h=>?_) (fun h=>?_))))
  ·obtain ⟨r3,hr3,h⟩:=bind_of h
   refine rb [] 3 ⟨[(1000000,1000000),(1010000,504000)],[(200,504000),(1000000,1000000)],[.own 1000000 0,vi b3.f_Indent],[(ex38 b1000000),(ex39 b1000000)],.agg (qc9 r3.1),[(200,50,[rc5 r3.2.f_l]),(1000000,46,qc10 200 r3.2)]⟩ [2,4] [2,4,504000,1000000] [(2,.own 2 0),(4,.own 4 0)] [(2,26,qc9 b2),(4,26,qc9 r3.1),(504000,50,[rc5 r3.2.f_l]),(1000000,46,qc10 504000 r3.2)] ((ok_block_reader_pairs__o0 R_block_reader_block__o0_s2 hR_block_reader_block__o0_s2 n b3.f_Indent b1000000 _ hr3)) (To.blockN ?_)
   cases h
   exact hQ
  ·refine Wp.seq (rg [0,2,3,4,53] [2,3,4,504000,1000000] [(0,.own 1000000 0),(2,.own 2 0),(3,.own 3 0),(4,.own 4 0),(53,vb (decide (v7 < 0)))] [(2,26,qc9 b2),(3,50,qc3 b3),(4,26,qc9 b4),(ex33 b1000000),(ex34 b1000000)] (To.thenN (cn h (fun h=>?_) (fun h=>?_))))
   ·refine Wp.seq ?_
    obtain ⟨r4,hr4,h⟩:=lett_of h
    refine rb [] 3 ⟨[(1000000,1000000),(1010000,504000)],[(200,504000),(1000000,1000000)],[.own 1000000 0,vi b3.f_No,vi 3],[(ex38 b1000000),(ex39 b1000000)],.agg (qc9 r4.1),[(200,50,[rc5 r4.2.f_l]),(1000000,46,qc10 200 r4.2)]⟩ [2] [2,504000,1000000] [(2,.own 2 0)] [(2,26,qc9 r4.1),(504000,50,[rc5 r4.2.f_l]),(1000000,46,qc10 504000 r4.2)] ((ok_block_reader_fail__o0_s2 b3.f_No 3 b1000000 _ hr4)) (To.thenN (Wp.ret (To.blockR ?_)))
    cases h
    exact hQ
   ·refine Wp.seq (rg [0,2,3,4] [2,3,4,504000,1000000] [(0,.own 1000000 0),(2,.own 2 0),(3,.own 3 0),(4,.own 4 0)] [(2,26,qc9 b2),(3,50,qc3 b3),(4,26,qc9 b4),(ex33 b1000000),(ex36 b1000000)] (To.thenN ?_))
    obtain ⟨r5,hr5,h⟩:=bind_of h
    refine rb [] 5 ⟨[(1000000,1000000),(1010000,504000)],[(200,504000),(1000000,1000000)],[.own 1000000 0,vi b3.f_No,.str b3.f_Text],[(ex40 b1000000),(ex39 b1000000)],.agg (qc9 r5.1),[(200,50,[rc5 r5.2.f_l]),(1000000,46,qc10 200 r5.2)]⟩ [2,4] [2,4,504000,1000000] [(2,.own 2 0),(4,.own 4 0)] [(2,26,qc9 b2),(4,26,qc9 r5.1),(504000,50,[rc5 r5.2.f_l]),(1000000,46,qc10 504000 r5.2)] ((ok_block_reader_value__o0 n b3.f_No b3.f_Text (ex43 b1000000) _ hr5)) (To.blockN ?_)
    cases h
    exact hQ
def block_reader_block__o0_s2_b (R_block_reader_block__o0_s2:S_block_reader → Option (S_api_Node × S_block_reader)) (n:Nat) (h0:S_block_reader):Option (S_api_Node × S_block_reader) :=
 if (decide (0 ≤ h0.f_at ∧ h0.f_at < (List.length h0.f_l:Int))) = true then ((block_Entry n (((h0.f_l)[Int.toNat h0.f_at]?.getD (S_line_Line.mk 0 0 [])).f_Text)).bind fun r1 =>
 (block_reader_block__o0_s2_j1 R_block_reader_block__o0_s2 n r1.2.2 (S_api_Node.mk 0 [] [] []) ((h0.f_l)[Int.toNat h0.f_at]?.getD (S_line_Line.mk 0 0 [])) (S_api_Node.mk 0 [] [] []) h0).bind fun o2 =>
 (Sum.elim (fun o2=>some (o2.2.1,o2.2.2)) (fun o2=>some (o2.1,o2.2))) o2) else none
theorem ok_block_reader_block__o0_s2_b (R_block_reader_block__o0_s2:S_block_reader → Option (S_api_Node × S_block_reader)) (hR_block_reader_block__o0_s2:hR11 R_block_reader_block__o0_s2) (n:Nat) (h0:S_block_reader) (r:S_api_Node × S_block_reader) (h:block_reader_block__o0_s2_b R_block_reader_block__o0_s2 n h0 = some r):CallsB Tryz.prog 24 [.own 1000000 0] [(1000000,46,qc10 1010000 h0),(1010000,50,[rc5 h0.f_l])] (.agg (qc9 r.1)) [(200,50,[rc5 r.2.f_l]),(1000000,46,qc10 200 r.2)]:=by
 unfold block_reader_block__o0_s2_b at h
 refine bo Tryz.f24 rfl fun F0 w0=>?_
 refine nw [0] [1000000,1010000] [(1010000,504000)] [0] [504000,1000000] [(0,.own 1000000 0)] [(504000,50,[rc5 h0.f_l]),(1000000,46,qc10 504000 h0)] (Wp.seq (rg [0,2] [2,504000,1000000] [(0,.own 1000000 0),(2,.own 2 0)] [(2,26,[vi 0,.str [],.val (.slice none 0 0),.val (.slice none 0 0)]),(504000,50,[rc5 h0.f_l]),(1000000,46,qc10 504000 h0)] (To.thenN (Wp.seq ?_))))
 obtain ⟨hc3,h⟩:=chk_of h
 refine Wp.regionD hm hΓ [] [0,2,3] [2,3,504000,1000000] (K':=[(0,.own 1000000 0),(2,.own 2 0),(3,.own 3 0)]) (L':=[(2,26,[vi 0,.str [],.val (.slice none 0 0),.val (.slice none 0 0)]),(3,50,[vi (((h0.f_l)[Int.toNat h0.f_at]?.getD zx4).f_No),vi (((h0.f_l)[Int.toNat h0.f_at]?.getD zx4).f_Indent),.str (((h0.f_l)[Int.toNat h0.f_at]?.getD zx4).f_Text)]),(504000,50,[rc5 h0.f_l]),(1000000,46,qc10 504000 h0)]) (ob:=[(decide (0 ≤ h0.f_at ∧ h0.f_at < (List.length h0.f_l:Int))) = true,(decide (0 ≤ h0.f_at ∧ h0.f_at < (List.length h0.f_l:Int))) = true]) (by kernel_rfl) (AllP.cons hc3 (AllP.cons hc3 AllP.nil)) (To.thenN (Wp.seq (rg [0,2,3,4] [2,3,4,504000,1000000] [(0,.own 1000000 0),(2,.own 2 0),(3,.own 3 0),(4,.own 4 0)] [(2,26,[vi 0,.str [],.val (.slice none 0 0),.val (.slice none 0 0)]),(3,50,[vi (((h0.f_l)[Int.toNat h0.f_at]?.getD zx4).f_No),vi (((h0.f_l)[Int.toNat h0.f_at]?.getD zx4).f_Indent),.str (((h0.f_l)[Int.toNat h0.f_at]?.getD zx4).f_Text)]),(4,26,[vi 0,.str [],.val (.slice none 0 0),.val (.slice none 0 0)]),(504000,50,[rc5 h0.f_l]),(1000000,46,qc10 504000 h0)] (To.thenN (Wp.seq (Wp.seq ?_))))))
 obtain ⟨r1,hr1,h⟩:=bind_of h
 refine rc [] 2 [0,2,3,4,7] [2,3,4,504000,1000000] [(0,.own 1000000 0),(2,.own 2 0),(3,.own 3 0),(4,.own 4 0),(7,vi r1.2.2)] [(2,26,[vi 0,.str [],.val (.slice none 0 0),.val (.slice none 0 0)]),(3,50,[vi (((h0.f_l)[Int.toNat h0.f_at]?.getD zx4).f_No),vi (((h0.f_l)[Int.toNat h0.f_at]?.getD zx4).f_Indent),.str (((h0.f_l)[Int.toNat h0.f_at]?.getD zx4).f_Text)]),(4,26,[vi 0,.str [],.val (.slice none 0 0),.val (.slice none 0 0)]),(504000,50,[rc5 h0.f_l]),(1000000,46,qc10 504000 h0)] (ok_block_Entry n (((h0.f_l)[Int.toNat h0.f_at]?.getD zx4).f_Text) _ hr1) (To.thenN ?_)
 obtain ⟨o2,ho2,h⟩:=bind_of h
 refine kw [0,2,3,4,7] [2,3,4,504000,1000000] [(0,.own 1000000 0),(2,.own 2 0),(3,.own 3 0),(4,.own 4 0),(7,vi r1.2.2)] [(2,26,[vi 0,.str [],.val (.slice none 0 0),.val (.slice none 0 0)]),(3,50,[vi (((h0.f_l)[Int.toNat h0.f_at]?.getD zx4).f_No),vi (((h0.f_l)[Int.toNat h0.f_at]?.getD zx4).f_Indent),.str (((h0.f_l)[Int.toNat h0.f_at]?.getD zx4).f_Text)]),(4,26,[vi 0,.str [],.val (.slice none 0 0),.val (.slice none 0 0)]),(504000,50,[rc5 h0.f_l]),(1000000,46,qc10 504000 h0)] (Wp.weak (K':=[(0,.own 1000000 0),(2,.own 2 0),(3,.own 3 0),(4,.own 4 0),(7,vi r1.2.2)]) (L':=[(2,26,[vi 0,.str [],ls [],tn8 []]),(3,50,[vi (((h0.f_l)[Int.toNat h0.f_at]?.getD zx4).f_No),vi (((h0.f_l)[Int.toNat h0.f_at]?.getD zx4).f_Indent),.str (((h0.f_l)[Int.toNat h0.f_at]?.getD zx4).f_Text)]),(4,26,[vi 0,.str [],ls [],tn8 []]),(504000,50,[rc5 h0.f_l]),(1000000,46,qc10 504000 h0)]) (.cons (.refl _) (.cons (.refl _) (.cons (.refl _) (.cons (.refl _) (.cons (.refl _) .nil))))) (.cons (.cons (.refl _) (.cons (.refl _) (.cons (.zero _ _) (.cons (.zeroT _ _ _) .nil)))) (.cons (.cons (.refl _) (.cons (.refl _) (.cons (.refl _) .nil))) (.cons (.cons (.refl _) (.cons (.refl _) (.cons (.zero _ _) (.cons (.zeroT _ _ _) .nil)))) (.cons (.cons (.refl _) .nil) (.cons (.cons (.refl _) (.cons (.refl _) (.cons (.refl _) (.cons (.refl _) .nil)))) .nil))))) (ok_block_reader_block__o0_s2_j1 R_block_reader_block__o0_s2 hR_block_reader_block__o0_s2 n r1.2.2 zx7 ((h0.f_l)[Int.toNat h0.f_at]?.getD zx4) zx7 h0 o2 ho2 ?_))
 rcases o2 with o2 | o2
 ·replace h:=sum_l h
  refine To.thenN (Wp.seq (rg [2] [2,504000,1000000] [(2,.own 2 0)] [(2,26,qc9 o2.2.1),(504000,50,[rc5 o2.2.2.f_l]),(1000000,46,qc10 504000 o2.2.2)] (To.thenN (Wp.ret (nt [2] [2,504000,1000000] [(504000,200)] [2] [2,200,1000000] [(2,.own 2 0)] [(2,26,qc9 o2.2.1),(200,50,[rc5 o2.2.2.f_l]),(1000000,46,qc10 200 o2.2.2)] ?_)))))
  cases h
  exact To.doneB hΓ [200,1000000] (by kernel_rfl) (by kernel_rfl)
 ·replace h:=sum_r h
  refine To.thenR (nt [2] [2,504000,1000000] [(504000,200)] [2] [2,200,1000000] [(2,.own 2 0)] [(2,26,qc9 o2.1),(200,50,[rc5 o2.2.f_l]),(1000000,46,qc10 200 o2.2)] ?_)
  cases h
  exact To.doneB hΓ [200,1000000] (by kernel_rfl) (by kernel_rfl)
def block_reader_block__o0_s2:Nat → S_block_reader → Option (S_api_Node × S_block_reader)
 | 0=>fun _=>none
 | n + 1=>block_reader_block__o0_s2_b (block_reader_block__o0_s2 n) n
theorem ok_block_reader_block__o0_s2 (n:Nat):∀ (h0:S_block_reader) (r:S_api_Node × S_block_reader),block_reader_block__o0_s2 n h0 = some r → CallsB Tryz.prog 24 [.own 1000000 0] [(1000000,46,qc10 1010000 h0),(1010000,50,[rc5 h0.f_l])] (.agg (qc9 r.1)) [(200,50,[rc5 r.2.f_l]),(1000000,46,qc10 200 r.2)]:=by
 induction n with
 | zero=>intro h0 r h; cases h
 | succ n ih=>exact fun h0 r h=>ok_block_reader_block__o0_s2_b (block_reader_block__o0_s2 n) ih n h0 r h
def block_Parse_j1 (n:Nat) (v46:Bool) (b2:S_api_Node) (b9:S_api_Node) (b27:S_block_reader):Option (S_block_reader) :=
 if v46 = true then (if (decide (0 ≤ b27.f_at ∧ b27.f_at < (List.length b27.f_l:Int))) = true then (lett (block_reader_fail__o0_s2 (((b27.f_l)[Int.toNat b27.f_at]?.getD (S_line_Line.mk 0 0 [])).f_No) 3 b27) fun r3 =>
 some r3.2) else none)
 else some b27
abbrev ex57 (x0:S_block_reader):=((x0.f_l)[Int.toNat x0.f_at]?.getD zx4)
theorem ok_block_Parse_j1 (n:Nat) (v46:Bool) (b2:S_api_Node) (b9:S_api_Node) (b27:S_block_reader) (o:S_block_reader) (h:block_Parse_j1 n v46 b2 b9 b27 = some o) {F0:Fz} {w0:Pt Tryz.prog} {Q:Exit → Act → World → Prop} (hQ:To 81 F0 w0 [(2,.own 2 0),(8,.own 27 0),(9,.own 9 0)] [(2,26,qc9 b2),(9,26,qc9 b9),(27,46,qc10 5620 o),(5620,50,[rc5 o.f_l])] .normal Q):Wp Tryz.prog 81 F0 w0 [(2,.own 2 0),(8,.own 27 0),(9,.own 9 0),(46,vb v46)] [(2,26,qc9 b2),(9,26,qc9 b9),(27,46,qc10 5620 b27),(5620,50,[rc5 b27.f_l])] (cB (cA (cB (cB (cB (cB (cB (cB (cF Tryz.f9))))))))) Q:=by
 unfold block_Parse_j1 at h
 refine cn h (fun h=>?_) (fun h=>?_)
 ·obtain ⟨hc4,h⟩:=chk_of h
  obtain ⟨r3,hr3,h⟩:=lett_of h
  refine Wp.regionO hm hΓ [] [] [(12,⟨[(1000000,27),(1010000,5620)],[(200,5620),(1000000,27)],[.own 1000000 0,vi ((ex57 b27).f_No),vi 3],[(ex38 b27),(1010000,50,[rc5 b27.f_l])],.agg (qc9 r3.1),[(200,50,[rc5 r3.2.f_l]),(1000000,46,qc10 200 r3.2)]⟩)] [2,8,9,46,47,48,49,50,51,52,53,54,55,56,57,58,59] [2,9,27,5620] [2,8,9] [2,9,27,5620] (K':=[(2,.own 2 0),(8,.own 27 0),(9,.own 9 0)]) (L':=[(2,26,qc9 b2),(9,26,qc9 b9),(27,46,qc10 5620 r3.2),(5620,50,[rc5 r3.2.f_l])]) (ob:=[(ex37 b27) = true,(ex37 b27) = true,CbOb (CallsB Tryz.prog) 25 [.own 27 0,vi ((ex57 b27).f_No),vi 3] [some (46,qc10 5620 b27),some (50,[rc5 b27.f_l])] ⟨[(1000000,27),(1010000,5620)],[(200,5620),(1000000,27)],[.own 1000000 0,vi ((ex57 b27).f_No),vi 3],[(ex38 b27),(1010000,50,[rc5 b27.f_l])],.agg (qc9 r3.1),[(200,50,[rc5 r3.2.f_l]),(1000000,46,qc10 200 r3.2)]⟩]) (by kernel_rfl) (by kernel_rfl) (AllP.cons hc4 (AllP.cons hc4 (AllP.cons (⟨(ok_block_reader_fail__o0_s2 ((ex57 b27).f_No) 3 b27 _ hr3),by kernel_rfl,by kernel_rfl⟩) AllP.nil))) ?_
  refine kt [2,8,9] [2,9,27,5620] [(2,.own 2 0),(8,.own 27 0),(9,.own 9 0)] [(2,26,qc9 b2),(9,26,qc9 b9),(27,46,qc10 5620 r3.2),(5620,50,[rc5 r3.2.f_l])] ?_
  cases h
  exact hQ
 ·refine Wp.skip (kt [2,8,9] [2,9,27,5620] [(2,.own 2 0),(8,.own 27 0),(9,.own 9 0)] [(2,26,qc9 b2),(9,26,qc9 b9),(27,46,qc10 5620 b27),(5620,50,[rc5 b27.f_l])] ?_)
  cases h
  exact hQ
def block_Parse (n:Nat) (a0:List UInt8):Option (S_api_Node × Int × Int) :=
 (line_Split_o n a0).bind fun r1 =>
 if (r1.2.2 != 0) = true then (some ((S_api_Node.mk 0 [] [] []),r1.2.1,r1.2.2))
 else (if ((List.length r1.1:Int) == 0) = true then (some ((S_api_Node.mk 0 [] [] []),0,0))
 else ((block_reader_block__o0_s2 n (S_block_reader.mk r1.1 0 0 0)).bind fun r2 =>
 (block_Parse_j1 n (bif (r2.2.f_e == 0) then (decide (r2.2.f_at < (List.length r2.2.f_l:Int))) else false) (S_api_Node.mk 0 [] [] []) r2.1 r2.2).bind fun o3 =>
 if (o3.f_e != 0) = true then (some ((S_api_Node.mk 0 [] [] []),o3.f_no,o3.f_e))
 else ((node_Right n r2.1).bind fun r4 =>
 if (!r4) = true then (some ((S_api_Node.mk 0 [] [] []),0,9))
 else (some (r2.1,0,0)))))
theorem ok_block_Parse (n:Nat) (a0:List UInt8) (r:S_api_Node × Int × Int) (h:block_Parse n a0 = some r):CallsX Tryz.prog 9 [.str a0] (.tup [.agg (qc9 r.1),vi r.2.1,vi r.2.2]):=by
 unfold block_Parse at h
 refine xo Tryz.f9 rfl fun F0 w0 _=>?_
 refine Wp.seq (rg [0,2] [2] [(0,.str a0),(2,.own 2 0)] [(2,26,[vi 0,.str [],.val (.slice none 0 0),.val (.slice none 0 0)])] (To.thenN (Wp.seq ?_)))
 obtain ⟨r1,hr1,h⟩:=bind_of h
 refine rb [] 1 ⟨[],[(1,12)],[.str a0],[],.tup [.row 1,vi r1.2.1,vi r1.2.2],[(1,50,[rc5 r1.1])]⟩ [2,5,6,7] [2,12] [(2,.own 2 0),(5,.row 12),(6,vi r1.2.1),(7,vi r1.2.2)] [(2,26,[vi 0,.str [],.val (.slice none 0 0),.val (.slice none 0 0)]),(12,50,[rc5 r1.1])] ((ok_line_Split_o n a0 _ hr1)) (To.thenN (Wp.seq (Wp.seq (rg [2,5,6,7,17] [2,12] [(2,.own 2 0),(5,.row 12),(6,vi r1.2.1),(7,vi r1.2.2),(17,vb (r1.2.2 != 0))] [(2,26,[vi 0,.str [],.val (.slice none 0 0),.val (.slice none 0 0)]),(12,50,[rc5 r1.1])] (To.thenN (cn h (fun h=>?_) (fun h=>?_)))))))
 ·refine Wp.seq (rg [2,3,4] [2] [(2,.own 2 0),(3,vi r1.2.1),(4,vi r1.2.2)] [(2,26,[vi 0,.str [],.val (.slice none 0 0),.val (.slice none 0 0)])] (To.thenN (Wp.ret (To.thenR (To.weak (K':=[(2,.own 2 0),(3,vi r1.2.1),(4,vi r1.2.2)]) (L':=[(2,26,[vi 0,.str [],ls [],tn8 []])]) (.cons (.refl _) (.cons (.refl _) (.cons (.refl _) .nil))) (.cons (.cons (.refl _) (.cons (.refl _) (.cons (.zero _ _) (.cons (.zeroT _ _ _) .nil)))) .nil) ?_)))))
  cases h
  exact To.done hΓ (by kernel_rfl)
 ·refine Wp.skip (To.thenN (Wp.seq (Wp.seq (rg [2,5,23] [2,12] [(2,.own 2 0),(5,.row 12),(23,vb ((List.length r1.1:Int) == 0))] [(2,26,[vi 0,.str [],.val (.slice none 0 0),.val (.slice none 0 0)]),(12,50,[rc5 r1.1])] (To.thenN (cn h (fun h=>?_) (fun h=>?_)))))))
  ·refine Wp.seq (rg [2,3,4] [2] [(2,.own 2 0),(3,vi 0),(4,vi 0)] [(2,26,[vi 0,.str [],.val (.slice none 0 0),.val (.slice none 0 0)])] (To.thenN (Wp.ret (To.thenR (To.weak (K':=[(2,.own 2 0),(3,vi 0),(4,vi 0)]) (L':=[(2,26,[vi 0,.str [],ls [],tn8 []])]) (.cons (.refl _) (.cons (.refl _) (.cons (.refl _) .nil))) (.cons (.cons (.refl _) (.cons (.refl _) (.cons (.zero _ _) (.cons (.zeroT _ _ _) .nil)))) .nil) ?_)))))
   cases h
   exact To.done hΓ (by kernel_rfl)
  ·refine Wp.skip (To.thenN (Wp.seq (rg [2,8] [2,12,27] [(2,.own 2 0),(8,.own 27 0)] [(2,26,[vi 0,.str [],.val (.slice none 0 0),.val (.slice none 0 0)]),(12,50,[rc5 r1.1]),(27,46,[.row 12,vi 0,vi 0,vi 0])] (To.thenN (Wp.seq ?_)))))
   obtain ⟨r2,hr2,h⟩:=bind_of h
   refine rb [] 1 ⟨[(1000000,27),(1010000,12)],[(200,12),(1000000,27)],[.own 1000000 0],[(1000000,46,[.row 1010000,vi 0,vi 0,vi 0]),(1010000,50,[rc5 r1.1])],.agg (qc9 r2.1),[(200,50,[rc5 r2.2.f_l]),(1000000,46,qc10 200 r2.2)]⟩ [2,8,9] [2,9,12,27] [(2,.own 2 0),(8,.own 27 0),(9,.own 9 0)] [(2,26,[vi 0,.str [],.val (.slice none 0 0),.val (.slice none 0 0)]),(9,26,qc9 r2.1),(12,50,[rc5 r2.2.f_l]),(27,46,qc10 12 r2.2)] ((ok_block_reader_block__o0_s2 n (S_block_reader.mk r1.1 0 0 0) _ hr2)) (To.thenN (Wp.seq (Wp.seq (Wp.regionD hm hΓ [] [2,8,9,46] [2,9,12,27] (K':=[(2,.own 2 0),(8,.own 27 0),(9,.own 9 0),(46,vb (bif (r2.2.f_e == 0) then (decide (r2.2.f_at < (List.length r2.2.f_l:Int))) else false))]) (L':=[(2,26,[vi 0,.str [],.val (.slice none 0 0),.val (.slice none 0 0)]),(9,26,qc9 r2.1),(12,50,[rc5 r2.2.f_l]),(27,46,qc10 12 r2.2)]) (ob:=[]) (by kernel_rfl) AllP.nil (To.thenN ?_)))))
   obtain ⟨o3,ho3,h⟩:=bind_of h
   refine nw [2,8,9,46] [2,9,12,27] [(12,5620)] [2,8,9,46] [2,9,27,5620] [(2,.own 2 0),(8,.own 27 0),(9,.own 9 0),(46,vb (bif (r2.2.f_e == 0) then (decide (r2.2.f_at < (List.length r2.2.f_l:Int))) else false))] [(2,26,[vi 0,.str [],.val (.slice none 0 0),.val (.slice none 0 0)]),(9,26,qc9 r2.1),(27,46,qc10 5620 r2.2),(5620,50,[rc5 r2.2.f_l])] (Wp.weak (K':=[(2,.own 2 0),(8,.own 27 0),(9,.own 9 0),(46,vb (bif (r2.2.f_e == 0) then (decide (r2.2.f_at < (List.length r2.2.f_l:Int))) else false))]) (L':=[(2,26,[vi 0,.str [],ls [],tn8 []]),(9,26,qc9 r2.1),(27,46,qc10 5620 r2.2),(5620,50,[rc5 r2.2.f_l])]) (.cons (.refl _) (.cons (.refl _) (.cons (.refl _) (.cons (.refl _) .nil)))) (.cons (.cons (.refl _) (.cons (.refl _) (.cons (.zero _ _) (.cons (.zeroT _ _ _) .nil)))) (.cons (.cons (.refl _) (.cons (.refl _) (.cons (.refl _) (.cons (.refl _) .nil)))) (.cons (.cons (.refl _) (.cons (.refl _) (.cons (.refl _) (.cons (.refl _) .nil)))) (.cons (.cons (.refl _) .nil) .nil)))) (ok_block_Parse_j1 n (bif (r2.2.f_e == 0) then (decide (r2.2.f_at < (List.length r2.2.f_l:Int))) else false) zx7 r2.1 r2.2 o3 ho3 (To.thenN (Wp.seq (Wp.block (Wp.seq (rg [2,8,9,60] [2,9,27,5620] [(2,.own 2 0),(8,.own 27 0),(9,.own 9 0),(60,vb (o3.f_e != 0))] [(2,26,[vi 0,.str [],ls [],tn8 []]),(9,26,qc9 r2.1),(27,46,qc10 5620 o3),(5620,50,[rc5 o3.f_l])] (To.thenN (cn h (fun h=>?_) (fun h=>?_))))))))))
   ·refine Wp.seq (Wp.regionD hm hΓ [] [2,3,4] [2] (K':=[(2,.own 2 0),(3,vi o3.f_no),(4,vi o3.f_e)]) (L':=[(2,26,[vi 0,.str [],.val (.slice none 0 0),.val (.slice none 0 0)])]) (ob:=[]) (by kernel_rfl) AllP.nil (To.thenN (Wp.ret (To.blockR (To.thenR (kt [2,3,4] [2] [(2,.own 2 0),(3,vi o3.f_no),(4,vi o3.f_e)] [(2,26,[vi 0,.str [],.val (.slice none 0 0),.val (.slice none 0 0)])] (To.weak (K':=[(2,.own 2 0),(3,vi o3.f_no),(4,vi o3.f_e)]) (L':=[(2,26,[vi 0,.str [],ls [],tn8 []])]) (.cons (.refl _) (.cons (.refl _) (.cons (.refl _) .nil))) (.cons (.cons (.refl _) (.cons (.refl _) (.cons (.zero _ _) (.cons (.zeroT _ _ _) .nil)))) .nil) ?_)))))))
    cases h
    exact To.done hΓ (by kernel_rfl)
   ·refine Wp.seq ?_
    obtain ⟨r4,hr4,h⟩:=bind_of h
    refine rc [] 1 [2,9,75] [2,9] [(2,.own 2 0),(9,.own 9 0),(75,vb (!r4))] [(2,26,[vi 0,.str [],ls [],tn8 []]),(9,26,qc9 r2.1)] (ok_node_Right n r2.1 _ hr4) (To.thenN (cn h (fun h=>?_) (fun h=>?_)))
    ·refine Wp.seq (rg [2,3,4] [2] [(2,.own 2 0),(3,vi 0),(4,vi 9)] [(2,26,[vi 0,.str [],.val (.slice none 0 0),.val (.slice none 0 0)])] (To.thenN (Wp.ret (To.blockR (To.thenR (To.weak (K':=[(2,.own 2 0),(3,vi 0),(4,vi 9)]) (L':=[(2,26,[vi 0,.str [],ls [],tn8 []])]) (.cons (.refl _) (.cons (.refl _) (.cons (.refl _) .nil))) (.cons (.cons (.refl _) (.cons (.refl _) (.cons (.zero _ _) (.cons (.zeroT _ _ _) .nil)))) .nil) ?_))))))
     cases h
     exact To.done hΓ (by kernel_rfl)
    ·refine Wp.skip (To.blockN (To.thenN (Wp.seq (rg [2,3,4] [2] [(2,.own 2 0),(3,vi 0),(4,vi 0)] [(2,26,qc9 r2.1)] (To.thenN (Wp.ret ?_))))))
     cases h
     exact To.done hΓ (by kernel_rfl)
def law10_awake (n:Nat):Option (Bool) :=
 (block_Parse n [97,58,10,45,32,120,10,45,32,98,58,32,49,10,32,32,99,58,32,91,50,93,10]).bind fun r1 =>
 (block_Parse n [97,58,32,49,10,32,32,98,58,32,50,10]).bind fun r2 =>
 if ((!((bif (bif (r1.2.2 == 0) then (r1.2.1 == 0) else false) then ((List.length r1.1.f_Keys:Int) == 1) else false) == true) || decide (0 ≤ (0:Int) ∧ (0:Int) < (List.length r1.1.f_Kids:Int)))) = true then (if ((!((bif (bif (bif (r1.2.2 == 0) then (r1.2.1 == 0) else false) then ((List.length r1.1.f_Keys:Int) == 1) else false) then ((List.length (((r1.1.f_Kids)[Int.toNat 0]?.getD (S_api_Node.mk 0 [] [] [])).f_Kids):Int) == 2) else false) == true) || decide (0 ≤ (0:Int) ∧ (0:Int) < (List.length r1.1.f_Kids:Int)))) = true then (if ((!((bif (bif (bif (r1.2.2 == 0) then (r1.2.1 == 0) else false) then ((List.length r1.1.f_Keys:Int) == 1) else false) then ((List.length (((r1.1.f_Kids)[Int.toNat 0]?.getD (S_api_Node.mk 0 [] [] [])).f_Kids):Int) == 2) else false) == true) || decide (0 ≤ (1:Int) ∧ (1:Int) < (List.length (((r1.1.f_Kids)[Int.toNat 0]?.getD (S_api_Node.mk 0 [] [] [])).f_Kids):Int)))) = true then (lett ((bif (bif (bif (bif (bif (bif (r1.2.2 == 0) then (r1.2.1 == 0) else false) then ((List.length r1.1.f_Keys:Int) == 1) else false) then ((List.length (((r1.1.f_Kids)[Int.toNat 0]?.getD (S_api_Node.mk 0 [] [] [])).f_Kids):Int) == 2) else false) then ((List.length (((((r1.1.f_Kids)[Int.toNat 0]?.getD (S_api_Node.mk 0 [] [] [])).f_Kids)[Int.toNat 1]?.getD (S_api_Node.mk 0 [] [] [])).f_Keys):Int) == 2) else false) then (r2.2.1 == 2) else false) then (r2.2.2 == 3) else false):Bool) fun x3 =>
 some x3) else none) else none) else none
theorem ok_law10_awake (n:Nat) (r:Bool) (h:law10_awake n = some r):CallsX Tryz.prog 8 [] (vb r):=by
 unfold law10_awake at h
 refine xo Tryz.f8 rfl fun F0 w0 _=>?_
 refine Wp.seq (rg [] [] [] [] (To.thenN (Wp.seq ?_)))
 obtain ⟨r1,hr1,h⟩:=bind_of h
 refine rc [] 0 [1,2,3] [1] [(1,.own 1 0),(2,vi r1.2.1),(3,vi r1.2.2)] [(1,26,qc9 r1.1)] (ok_block_Parse n [97,58,10,45,32,120,10,45,32,98,58,32,49,10,32,32,99,58,32,91,50,93,10] _ hr1) (To.thenN (Wp.seq ?_))
 obtain ⟨r2,hr2,h⟩:=bind_of h
 refine rc [] 0 [1,2,3,5,6] [1] [(1,.own 1 0),(2,vi r1.2.1),(3,vi r1.2.2),(5,vi r2.2.1),(6,vi r2.2.2)] [(1,26,qc9 r1.1)] (ok_block_Parse n [97,58,32,49,10,32,32,98,58,32,50,10] _ hr2) (To.thenN (Wp.seq ?_))
 obtain ⟨hc4,h⟩:=chk_of h
 obtain ⟨hc5,h⟩:=chk_of h
 obtain ⟨hc6,h⟩:=chk_of h
 obtain ⟨x3,hx3,h⟩:=lett_of h
 refine r0 [0] [] [(0,vb (bif (bif (bif (bif (bif (bif (r1.2.2 == 0) then (r1.2.1 == 0) else false) then ((List.length r1.1.f_Keys:Int) == 1) else false) then ((List.length (((r1.1.f_Kids)[Int.toNat 0]?.getD zx7).f_Kids):Int) == 2) else false) then ((List.length (((((r1.1.f_Kids)[Int.toNat 0]?.getD zx7).f_Kids)[Int.toNat 1]?.getD zx7).f_Keys):Int) == 2) else false) then (r2.2.1 == 2) else false) then (r2.2.2 == 3) else false))] [] (AllP.cons hc4 (AllP.cons hc5 (AllP.cons hc6 AllP.nil))) (To.eq (K':=[(0,vb x3)]) (L':=[]) (by cases hx3; rfl) (by cases hx3; rfl) (To.thenN (Wp.ret ?_)))
 cases h
 exact To.done hΓ (by kernel_rfl)
def E_ref07_Line:S_line_Line → List D:=fun x=>[.val (.int .i64 x.f_No),.val (.int .i64 x.f_Indent),.str x.f_Text]
def ref07_begins_j1 (n:Nat) (v0:List UInt8) (v1:Int) (v5:Int) (v7:Bool):Option (Int) :=
 if v7 = true then (if (decide (0 ≤ (IntKind.wrap .i64 (v1 - 1)) ∧ (IntKind.wrap .i64 (v1 - 1)) < (List.length v0:Int))) = true then (some (((v0)[Int.toNat (IntKind.wrap .i64 (v1 - 1))]?.getD 0).toNat:Int)) else none)
 else some v5
theorem ok_ref07_begins_j1 (n:Nat) (v0:List UInt8) (v1:Int) (v5:Int) (v7:Bool) (o:Int) (h:ref07_begins_j1 n v0 v1 v5 v7 = some o) {F0:Fz} {w0:Pt Tryz.prog} {Q:Exit → Act → World → Prop} (hQ:To 44 F0 w0 [(0,.str v0),(1,vi v1),(5,.val (.int .u8 o))] [] .normal Q):Wp Tryz.prog 44 F0 w0 [(0,.str v0),(1,vi v1),(5,.val (.int .u8 v5)),(7,vb v7)] [] (cB (cA (cB (cB (cF Tryz.f92))))) Q:=by
 unfold ref07_begins_j1 at h
 refine cn h (fun h=>?_) (fun h=>?_)
 ·obtain ⟨hc1,h⟩:=chk_of h
  refine r0 [0,1,5] [] [(0,.str v0),(1,vi v1),(5,.val (.int .u8 (ex18 v0 v1)))] [] (AllP.cons hc1 AllP.nil) (kt [0,1,5] [] [(0,.str v0),(1,vi v1),(5,.val (.int .u8 (ex18 v0 v1)))] [] ?_)
  cases h
  exact hQ
 ·refine Wp.skip (kt [0,1,5] [] [(0,.str v0),(1,vi v1),(5,.val (.int .u8 v5))] [] ?_)
  cases h
  exact hQ
def ref07_begins (n:Nat) (a0:List UInt8) (a1:Int):Option (Int) :=
 (ref07_begins_j1 n a0 a1 32 (decide (a1 > 0))).bind fun o1 =>
 if (decide (0 ≤ a1 ∧ a1 < (List.length a0:Int))) = true then (if (bif ((((a0)[Int.toNat a1]?.getD 0).toNat:Int) == 35) then (o1 == 32) else false) = true then some 2
 else (if (decide (0 ≤ a1 ∧ a1 < (List.length a0:Int))) = true then (if ((!(((((a0)[Int.toNat a1]?.getD 0).toNat:Int) != 34) == true) || decide (0 ≤ a1 ∧ a1 < (List.length a0:Int)))) = true then (lett ((bif ((((a0)[Int.toNat a1]?.getD 0).toNat:Int) != 34) then ((((a0)[Int.toNat a1]?.getD 0).toNat:Int) != 39) else false):Bool) fun x2 =>
 if x2 = true then some 0
 else (if (bif (bif (bif (o1 == 32) then true else (o1 == 91)) then true else (o1 == 123)) then true else (o1 == 44)) = true then some 1
 else some 0)) else none) else none)) else none
theorem ok_ref07_begins (n:Nat) (a0:List UInt8) (a1:Int) (r:Int) (h:ref07_begins n a0 a1 = some r):CallsX Tryz.prog 92 [.str a0,vi a1] (vi r):=by
 unfold ref07_begins at h
 refine xo Tryz.f92 rfl fun F0 w0 _=>?_
 refine Wp.seq (rg [0,1] [] [(0,.str a0),(1,vi a1)] [] (To.thenN (Wp.seq (rg [0,1,5] [] [(0,.str a0),(1,vi a1),(5,.val (.int .u8 32))] [] (To.thenN (Wp.seq (Wp.seq (rg [0,1,5,7] [] [(0,.str a0),(1,vi a1),(5,.val (.int .u8 32)),(7,vb (decide (a1 > 0)))] [] (To.thenN ?_)))))))))
 obtain ⟨o1,ho1,h⟩:=bind_of h
 refine kw [0,1,5,7] [] [(0,.str a0),(1,vi a1),(5,.val (.int .u8 32)),(7,vb (decide (a1 > 0)))] [] (ok_ref07_begins_j1 n a0 a1 32 (decide (a1 > 0)) o1 ho1 (To.thenN (Wp.seq (Wp.seq ?_))))
 obtain ⟨hc5,h⟩:=chk_of h
 refine r0 [0,1,5,19] [] [(0,.str a0),(1,vi a1),(5,.val (.int .u8 o1)),(19,vb (bif ((ex6 a0 a1) == 35) then (o1 == 32) else false))] [] (AllP.cons hc5 AllP.nil) (To.thenN (cn h (fun h=>?_) (fun h=>?_)))
 ·refine Wp.seq (rg [4] [] [(4,vi 2)] [] (To.thenN (Wp.ret (To.thenR ?_))))
  cases h
  exact To.done hΓ (by kernel_rfl)
 ·refine Wp.skip (To.thenN (Wp.seq (Wp.seq ?_)))
  obtain ⟨hc3,h⟩:=chk_of h
  obtain ⟨hc4,h⟩:=chk_of h
  obtain ⟨x2,hx2,h⟩:=lett_of h
  refine r0 [5,29] [] [(5,.val (.int .u8 o1)),(29,vb (bif ((ex6 a0 a1) != 34) then ((ex6 a0 a1) != 39) else false))] [] (AllP.cons hc3 (AllP.cons hc4 AllP.nil)) (To.eq (K':=[(5,.val (.int .u8 o1)),(29,vb x2)]) (L':=[]) (by cases hx2; rfl) (by cases hx2; rfl) (To.thenN (cn h (fun h=>?_) (fun h=>?_))))
  ·refine Wp.seq (rg [4] [] [(4,vi 0)] [] (To.thenN (Wp.ret (To.thenR ?_))))
   cases h
   exact To.done hΓ (by kernel_rfl)
  ·refine Wp.skip (To.thenN (Wp.seq (Wp.seq (rg [43] [] [(43,vb (bif (bif (bif (o1 == 32) then true else (o1 == 91)) then true else (o1 == 123)) then true else (o1 == 44)))] [] (To.thenN (cn h (fun h=>?_) (fun h=>?_)))))))
   ·refine Wp.seq (rg [4] [] [(4,vi 1)] [] (To.thenN (Wp.ret (To.thenR ?_))))
    cases h
    exact To.done hΓ (by kernel_rfl)
   ·refine Wp.skip (To.thenN (Wp.seq (rg [4] [] [(4,vi 0)] [] (To.thenN (Wp.ret ?_)))))
    cases h
    exact To.done hΓ (by kernel_rfl)
def ref06_Good (a0:Int):Bool :=
 (bif (bif (decide (a0 ≥ 32)) then (decide (a0 ≤ 126)) else false) then true else (decide (a0 ≥ 128)))
theorem ok_ref06_Good (a0:Int) (r:Bool) (h:ref06_Good a0 = r):CallsX Tryz.prog 75 [.val (.int .u8 a0)] (vb r):=by
 unfold ref06_Good at h
 refine xo Tryz.f75 rfl fun F0 w0 _=>?_
 refine Wp.seq (rg [0] [] [(0,.val (.int .u8 a0))] [] (To.thenN (Wp.seq (rg [2] [] [(2,vb (bif (bif (decide (a0 ≥ 32)) then (decide (a0 ≤ 126)) else false) then true else (decide (a0 ≥ 128))))] [] (To.thenN (Wp.ret ?_))))))
 cases h
 exact To.done hΓ (by kernel_rfl)
def ref06_value (a0:Int):Int :=
 if (bif (decide (a0 ≥ 48)) then (decide (a0 ≤ 57)) else false) = true then ((IntKind.wrap .i64 ((IntKind.wrap .i64 (a0)) - 48)))
 else (if (bif (decide (a0 ≥ 97)) then (decide (a0 ≤ 102)) else false) = true then ((IntKind.wrap .i64 ((IntKind.wrap .i64 (a0)) - 87)))
 else (if (bif (decide (a0 ≥ 65)) then (decide (a0 ≤ 70)) else false) = true then ((IntKind.wrap .i64 ((IntKind.wrap .i64 (a0)) - 55)))
 else 16))
theorem ok_ref06_value (a0:Int) (r:Int) (h:ref06_value a0 = r):CallsX Tryz.prog 104 [.val (.int .u8 a0)] (vi r):=by
 unfold ref06_value at h
 refine xo Tryz.f104 rfl fun F0 w0 _=>?_
 refine Wp.seq (rg [0] [] [(0,.val (.int .u8 a0))] [] (To.thenN (Wp.seq (Wp.seq (rg [0,8] [] [(0,.val (.int .u8 a0)),(8,vb (ex2 a0))] [] (To.thenN (cn h (fun h=>?_) (fun h=>?_))))))))
 ·refine Wp.seq (rg [2] [] [(2,vi (IntKind.wrap .i64 ((IntKind.wrap .i64 (a0)) - 48)))] [] (To.thenN (Wp.ret (To.thenR ?_))))
  cases h
  exact To.done hΓ (by kernel_rfl)
 ·refine Wp.skip (To.thenN (Wp.seq (Wp.seq (rg [0,17] [] [(0,.val (.int .u8 a0)),(17,vb (ex1 a0))] [] (To.thenN (cn h (fun h=>?_) (fun h=>?_)))))))
  ·refine Wp.seq (rg [2] [] [(2,vi (IntKind.wrap .i64 ((IntKind.wrap .i64 (a0)) - 87)))] [] (To.thenN (Wp.ret (To.thenR ?_))))
   cases h
   exact To.done hΓ (by kernel_rfl)
  ·refine Wp.skip (To.thenN (Wp.seq (Wp.seq (rg [0,26] [] [(0,.val (.int .u8 a0)),(26,vb (ex3 a0))] [] (To.thenN (cn h (fun h=>?_) (fun h=>?_)))))))
   ·refine Wp.seq (rg [2] [] [(2,vi (IntKind.wrap .i64 ((IntKind.wrap .i64 (a0)) - 55)))] [] (To.thenN (Wp.ret (To.thenR ?_))))
    cases h
    exact To.done hΓ (by kernel_rfl)
   ·refine Wp.skip (To.thenN (Wp.seq (rg [2] [] [(2,vi 16)] [] (To.thenN (Wp.ret ?_)))))
    cases h
    exact To.done hΓ (by kernel_rfl)
def ref06_double_l1 (n:Nat) (v0:List UInt8):Nat → Int → (List (UInt8)) → Option (Sum (Unit) ((List UInt8) × Int × Bool))
 | 0,_,_=>none
 | k + 1,v1,v7=>if (decide (v1 < (List.length v0:Int))) = true then (if (decide (0 ≤ v1 ∧ v1 < (List.length v0:Int))) = true then (if (!(ref06_Good (((v0)[Int.toNat v1]?.getD 0).toNat:Int))) = true then (some (.inr ([],0,false)))
 else (if ((((v0)[Int.toNat v1]?.getD 0).toNat:Int) == 34) = true then (some (.inr (v7,(IntKind.wrap .i64 (v1 + 1)),true)))
 else (if ((((v0)[Int.toNat v1]?.getD 0).toNat:Int) != 92) = true then (if (decide ((List.length v7 + List.length ([((v0)[Int.toNat v1]?.getD 0)]:List (UInt8))) * (1 + 1) ≤ limit)) = true then (ref06_double_l1 n v0 k (IntKind.wrap .i64 (v1 + 1)) (v7 ++ ([((v0)[Int.toNat v1]?.getD 0)]:List (UInt8)))) else none)
 else (if (decide ((IntKind.wrap .i64 (v1 + 1)) ≥ (List.length v0:Int))) = true then (some (.inr ([],0,false)))
 else (if (decide (0 ≤ (IntKind.wrap .i64 (v1 + 1)) ∧ (IntKind.wrap .i64 (v1 + 1)) < (List.length v0:Int))) = true then (lett ((bif ((((v0)[Int.toNat (IntKind.wrap .i64 (v1 + 1))]?.getD 0).toNat:Int) == 92) then true else ((((v0)[Int.toNat (IntKind.wrap .i64 (v1 + 1))]?.getD 0).toNat:Int) == 34)):Bool) fun x2 =>
 if x2 = true then (if (decide ((List.length v7 + List.length ([((v0)[Int.toNat (IntKind.wrap .i64 (v1 + 1))]?.getD 0)]:List (UInt8))) * (1 + 1) ≤ limit)) = true then (ref06_double_l1 n v0 k (IntKind.wrap .i64 (v1 + 2)) (v7 ++ ([((v0)[Int.toNat (IntKind.wrap .i64 (v1 + 1))]?.getD 0)]:List (UInt8)))) else none)
 else (if ((((v0)[Int.toNat (IntKind.wrap .i64 (v1 + 1))]?.getD 0).toNat:Int) == 110) = true then (if (decide ((List.length v7 + List.length ([10]:List (UInt8))) * (1 + 1) ≤ limit)) = true then (ref06_double_l1 n v0 k (IntKind.wrap .i64 (v1 + 2)) (v7 ++ ([10]:List (UInt8)))) else none)
 else (if ((((v0)[Int.toNat (IntKind.wrap .i64 (v1 + 1))]?.getD 0).toNat:Int) == 116) = true then (if (decide ((List.length v7 + List.length ([9]:List (UInt8))) * (1 + 1) ≤ limit)) = true then (ref06_double_l1 n v0 k (IntKind.wrap .i64 (v1 + 2)) (v7 ++ ([9]:List (UInt8)))) else none)
 else (if ((!((bif ((((v0)[Int.toNat (IntKind.wrap .i64 (v1 + 1))]?.getD 0).toNat:Int) == 120) then (decide ((IntKind.wrap .i64 (v1 + 3)) < (List.length v0:Int))) else false) == true) || decide (0 ≤ (IntKind.wrap .i64 (v1 + 2)) ∧ (IntKind.wrap .i64 (v1 + 2)) < (List.length v0:Int)))) = true then (lett (ref06_value (((v0)[Int.toNat (IntKind.wrap .i64 (v1 + 2))]?.getD 0).toNat:Int)) fun r6 =>
 if ((!((bif (bif ((((v0)[Int.toNat (IntKind.wrap .i64 (v1 + 1))]?.getD 0).toNat:Int) == 120) then (decide ((IntKind.wrap .i64 (v1 + 3)) < (List.length v0:Int))) else false) then (decide (r6 < 16)) else false) == true) || decide (0 ≤ (IntKind.wrap .i64 (v1 + 3)) ∧ (IntKind.wrap .i64 (v1 + 3)) < (List.length v0:Int)))) = true then (lett (ref06_value (((v0)[Int.toNat (IntKind.wrap .i64 (v1 + 3))]?.getD 0).toNat:Int)) fun r7 =>
 lett ((bif (bif (bif ((((v0)[Int.toNat (IntKind.wrap .i64 (v1 + 1))]?.getD 0).toNat:Int) == 120) then (decide ((IntKind.wrap .i64 (v1 + 3)) < (List.length v0:Int))) else false) then (decide (r6 < 16)) else false) then (decide (r7 < 16)) else false):Bool) fun x8 =>
 if x8 = true then (if (decide (0 ≤ (IntKind.wrap .i64 (v1 + 2)) ∧ (IntKind.wrap .i64 (v1 + 2)) < (List.length v0:Int))) = true then (lett (ref06_value (((v0)[Int.toNat (IntKind.wrap .i64 (v1 + 2))]?.getD 0).toNat:Int)) fun r9 =>
 if (decide (0 ≤ (IntKind.wrap .i64 (v1 + 3)) ∧ (IntKind.wrap .i64 (v1 + 3)) < (List.length v0:Int))) = true then (lett (ref06_value (((v0)[Int.toNat (IntKind.wrap .i64 (v1 + 3))]?.getD 0).toNat:Int)) fun r10 =>
 if (decide (0 ≤ (IntKind.wrap .u8 ((IntKind.wrap .i64 ((IntKind.wrap .i64 (r9 * 16)) + r10)))) ∧ (IntKind.wrap .u8 ((IntKind.wrap .i64 ((IntKind.wrap .i64 (r9 * 16)) + r10)))) < 256)) = true then (if (decide ((List.length v7 + List.length ([(UInt8.ofNat (Int.toNat (IntKind.wrap .u8 ((IntKind.wrap .i64 ((IntKind.wrap .i64 (r9 * 16)) + r10))))))]:List (UInt8))) * (1 + 1) ≤ limit)) = true then (lett ((v7 ++ ([(UInt8.ofNat (Int.toNat (IntKind.wrap .u8 ((IntKind.wrap .i64 ((IntKind.wrap .i64 (r9 * 16)) + r10))))))]:List (UInt8))):List (UInt8)) fun x12 =>
 ref06_double_l1 n v0 k (IntKind.wrap .i64 (v1 + 4)) x12) else none) else none) else none) else none)
 else (some (.inr ([],0,false)))) else none) else none)))) else none))))) else none)
 else (some (.inl ()))
abbrev ex58 (x0:Int) (x1:List UInt8):=(decide ((IntKind.wrap .i64 (x0 + 3)) < (List.length x1:Int)))
abbrev ex59 (x0:List UInt8) (x1:Int):=(((x0)[Int.toNat (IntKind.wrap .i64 (x1 + 2))]?.getD 0).toNat:Int)
abbrev ex60 (x0:List UInt8) (x1:Int):=(((x0)[Int.toNat (IntKind.wrap .i64 (x1 + 3))]?.getD 0).toNat:Int)
abbrev ex61 (x0:Int) (x1:List UInt8):=(decide ((IntKind.wrap .i64 (x0 + 1)) ≥ (List.length x1:Int)))
abbrev ex90 (x0:List UInt8) (x1:Int):=(bif (((ex7 x0 x1).toNat:Int) == 120) then (ex58 x1 x0) else false)
abbrev ex91 (x0:List UInt8) (x1:Int):=([(ex7 x0 x1)]:List (UInt8))
theorem ok_ref06_double_l1 (n:Nat) (v0:List UInt8) {F0:Fz} {w0:Pt Tryz.prog} {Q:Exit → Act → World → Prop} (k:Nat):∀ (v1:Int) (v7:List (UInt8)) (o:Sum (Unit) ((List UInt8) × Int × Bool)),ref06_double_l1 n v0 k v1 v7 = some o → (Sum.elim (fun s=>To 113 F0 w0 [] [] (.exit 0) Q) (fun s=>To 113 F0 w0 [(4,.str s.1),(5,vi s.2.1),(6,vb s.2.2)] [] .ret Q)) o → WL Tryz.prog 113 F0 w0 [(0,.str v0),(1,vi v1),(7,.row 1007)] [(1007,5,[rc1 v7])] (cI (cI (cA (cB (cB (cF Tryz.f72)))))) Q:=by
 induction k with
 | zero=>intro v1 v7 o h; cases h
 | succ k ih =>
  intro v1 v7 o h hQ
  rw [ref06_double_l1] at h
  refine WL.round (Wp.seq (Wp.seq (rg [0,1,7,14] [1007] [(0,.str v0),(1,vi v1),(7,.row 1007),(14,vb (ex9 v1 v0))] [(1007,5,[rc1 v7])] (To.thenN (cn h (fun h=>?_) (fun h=>?_))))))
  ·refine Wp.skip (To.thenN (Wp.block (Wp.seq ?_)))
   obtain ⟨hc19,h⟩:=chk_of h
   refine r0 [0,1,7,8] [1007] [(0,.str v0),(1,vi v1),(7,.row 1007),(8,.val (.int .u8 (ex6 v0 v1)))] [(1007,5,[rc1 v7])] (AllP.cons hc19 AllP.nil) (To.thenN (Wp.seq (Wp.seq (rc [] 1 [0,1,7,8,20] [1007] [(0,.str v0),(1,vi v1),(7,.row 1007),(8,.val (.int .u8 (ex6 v0 v1))),(20,vb (!(ref06_Good (ex6 v0 v1))))] [(1007,5,[rc1 v7])] (ok_ref06_Good (ex6 v0 v1) _ rfl) (To.thenN (cn h (fun h=>?_) (fun h=>?_)))))))
   ·refine Wp.seq (rg [4,5,6] [] [(4,.str []),(5,vi 0),(6,vb false)] [] (To.thenN (Wp.ret (To.thenR (To.blockR (To.thenR ?_))))))
    cases h
    exact hQ
   ·refine Wp.skip (To.thenN (Wp.seq (Wp.seq (rg [0,1,7,8,22] [1007] [(0,.str v0),(1,vi v1),(7,.row 1007),(8,.val (.int .u8 (ex6 v0 v1))),(22,vb ((ex6 v0 v1) == 34))] [(1007,5,[rc1 v7])] (To.thenN (cn h (fun h=>?_) (fun h=>?_)))))))
    ·refine Wp.seq (rr [] [(1,.str v7)] [] [4,5,6] [] [(4,.str v7),(ex12 v1),(6,vb true)] [] [(true = true → StrOb (List.flatMap e8 v7) (.str v7))] (AllP.cons (fun _=>strOb (flat8 _)) AllP.nil) (To.thenN (Wp.ret (To.thenR (To.blockR (To.thenR ?_))))))
     cases h
     exact hQ
    ·refine Wp.skip (To.thenN (Wp.seq (Wp.seq (rg [0,1,7,8,28] [1007] [(0,.str v0),(1,vi v1),(7,.row 1007),(8,.val (.int .u8 (ex6 v0 v1))),(28,vb ((ex6 v0 v1) != 92))] [(1007,5,[rc1 v7])] (To.thenN (cn h (fun h=>?_) (fun h=>?_)))))))
     ·refine Wp.seq ?_
      obtain ⟨hc1,h⟩:=chk_of h
      refine rr [] [(2,rs2 (ex16 v0 v1)),(3,rs2 (v7 ++ (ex8 v0 v1)))] [] [0,1,7] [32] [(0,.str v0),(1,vi v1),(7,.row 32)] [(32,5,[rc1 (v7 ++ (ex8 v0 v1))])] [(ex79 v0 v1),_,(ex78 v7 v0 v1)] (AllP.cons (mkOb (All8.cells (ns:=[(ex6 v0 v1)]) (.cons rfl .nil)) rfl rfl (good8 _)) (AllP.cons hc1 (AllP.cons (appOb rfl rfl (good8 _)) AllP.nil))) (To.thenN (Wp.seq (rg [0,1,7] [32] [(0,.str v0),(ex11 v1),(7,.row 32)] [(32,5,[rc1 (v7 ++ (ex8 v0 v1))])] (To.thenN (Wp.exit (To.thenX (To.blockX (nt [0,1,7] [32] [(32,1007)] [0,1,7] [1007] [(0,.str v0),(ex11 v1),(7,.row 1007)] [(1007,5,[rc1 (v7 ++ (ex8 v0 v1))])] (To.again ?_)))))))))
      exact ih (IntKind.wrap .i64 (v1 + 1)) (v7 ++ (ex8 v0 v1)) _ h hQ
     ·refine Wp.skip (To.thenN (Wp.seq (Wp.seq (rg [0,1,7,39] [1007] [(0,.str v0),(1,vi v1),(7,.row 1007),(39,vb (ex61 v1 v0))] [(1007,5,[rc1 v7])] (To.thenN (cn h (fun h=>?_) (fun h=>?_)))))))
      ·refine Wp.seq (rg [4,5,6] [] [(4,.str []),(5,vi 0),(6,vb false)] [] (To.thenN (Wp.ret (To.thenR (To.blockR (To.thenR ?_))))))
       cases h
       exact hQ
      ·refine Wp.skip (To.thenN (Wp.seq ?_))
       obtain ⟨hc18,h⟩:=chk_of h
       refine r0 [0,1,7,9] [1007] [(0,.str v0),(1,vi v1),(7,.row 1007),(9,.val (.int .u8 ((ex7 v0 v1).toNat:Int)))] [(1007,5,[rc1 v7])] (AllP.cons hc18 AllP.nil) (To.thenN (Wp.seq ?_))
       obtain ⟨x2,hx2,h⟩:=lett_of h
       refine rg [0,1,7,9,49] [1007] [(0,.str v0),(1,vi v1),(7,.row 1007),(9,.val (.int .u8 ((ex7 v0 v1).toNat:Int))),(49,vb (bif (((ex7 v0 v1).toNat:Int) == 92) then true else (((ex7 v0 v1).toNat:Int) == 34)))] [(1007,5,[rc1 v7])] (To.eq (K':=[(0,.str v0),(1,vi v1),(7,.row 1007),(9,.val (.int .u8 ((ex7 v0 v1).toNat:Int))),(49,vb x2)]) (L':=[(1007,5,[rc1 v7])]) (by cases hx2; rfl) (by cases hx2; rfl) (To.thenN (cn h (fun h=>?_) (fun h=>?_))))
       ·refine Wp.seq ?_
        obtain ⟨hc3,h⟩:=chk_of h
        refine rr [] [(2,rs2 ([(ex7 v0 v1)])),(3,rs2 (v7 ++ (ex91 v0 v1)))] [] [0,1,7] [53] [(0,.str v0),(1,vi v1),(7,.row 53)] [(53,5,[rc1 (v7 ++ (ex91 v0 v1))])] [(MkOb 1 [.val (.int .u8 ((ex7 v0 v1).toNat:Int))] 1 (rs2 ([(ex7 v0 v1)])) ∧ GoodR (rs2 ([(ex7 v0 v1)]))),_,(AppOb 0 e8 v7 (List.flatMap e8 (ex91 v0 v1)) (List.length (ex91 v0 v1)) (rs2 (v7 ++ (ex91 v0 v1))) ∧ GoodR (rs2 (v7 ++ (ex91 v0 v1))))] (AllP.cons (mkOb (All8.cells (ns:=[((ex7 v0 v1).toNat:Int)]) (.cons rfl .nil)) rfl rfl (good8 _)) (AllP.cons hc3 (AllP.cons (appOb rfl rfl (good8 _)) AllP.nil))) (To.thenN (rg [0,1,7] [53] [(0,.str v0),(ex14 v1),(7,.row 53)] [(53,5,[rc1 (v7 ++ (ex91 v0 v1))])] (To.blockN (nt [0,1,7] [53] [(53,1007)] [0,1,7] [1007] [(0,.str v0),(ex14 v1),(7,.row 1007)] [(1007,5,[rc1 (v7 ++ (ex91 v0 v1))])] (To.again ?_)))))
        exact ih (IntKind.wrap .i64 (v1 + 2)) (v7 ++ (ex91 v0 v1)) _ h hQ
       ·refine Wp.seq (rg [0,1,7,9,57] [1007] [(0,.str v0),(1,vi v1),(7,.row 1007),(9,.val (.int .u8 ((ex7 v0 v1).toNat:Int))),(57,vb (((ex7 v0 v1).toNat:Int) == 110))] [(1007,5,[rc1 v7])] (To.thenN (cn h (fun h=>?_) (fun h=>?_))))
        ·refine Wp.seq ?_
         obtain ⟨hc4,h⟩:=chk_of h
         refine rr [] [(1,rs2 [10]),(2,rs2 (v7 ++ ([10]:List (UInt8))))] [] [0,1,7] [60] [(0,.str v0),(1,vi v1),(7,.row 60)] [(60,5,[rc1 (v7 ++ ([10]:List (UInt8)))])] [(MkOb 1 [.val (.int .u8 10)] 1 (rs2 [10]) ∧ GoodR (rs2 [10])),_,(AppOb 0 e8 v7 (List.flatMap e8 ([10]:List (UInt8))) (List.length ([10]:List (UInt8))) (rs2 (v7 ++ ([10]:List (UInt8)))) ∧ GoodR (rs2 (v7 ++ ([10]:List (UInt8)))))] (AllP.cons (mkOb (All8.cells (ns:=[10]) (.cons rfl .nil)) rfl rfl (good8 _)) (AllP.cons hc4 (AllP.cons (appOb rfl rfl (good8 _)) AllP.nil))) (To.thenN (rg [0,1,7] [60] [(0,.str v0),(ex14 v1),(7,.row 60)] [(60,5,[rc1 (v7 ++ ([10]:List (UInt8)))])] (To.blockN (nt [0,1,7] [60] [(60,1007)] [0,1,7] [1007] [(0,.str v0),(ex14 v1),(7,.row 1007)] [(1007,5,[rc1 (v7 ++ ([10]:List (UInt8)))])] (To.again ?_)))))
         exact ih (IntKind.wrap .i64 (v1 + 2)) (v7 ++ ([10]:List (UInt8))) _ h hQ
        ·refine Wp.seq (rg [0,1,7,9,64] [1007] [(0,.str v0),(1,vi v1),(7,.row 1007),(9,.val (.int .u8 ((ex7 v0 v1).toNat:Int))),(64,vb (((ex7 v0 v1).toNat:Int) == 116))] [(1007,5,[rc1 v7])] (To.thenN (cn h (fun h=>?_) (fun h=>?_))))
         ·refine Wp.seq ?_
          obtain ⟨hc5,h⟩:=chk_of h
          refine rr [] [(1,rs2 [9]),(2,rs2 (v7 ++ ([9]:List (UInt8))))] [] [0,1,7] [67] [(0,.str v0),(1,vi v1),(7,.row 67)] [(67,5,[rc1 (v7 ++ ([9]:List (UInt8)))])] [(MkOb 1 [.val (.int .u8 9)] 1 (rs2 [9]) ∧ GoodR (rs2 [9])),_,(AppOb 0 e8 v7 (List.flatMap e8 ([9]:List (UInt8))) (List.length ([9]:List (UInt8))) (rs2 (v7 ++ ([9]:List (UInt8)))) ∧ GoodR (rs2 (v7 ++ ([9]:List (UInt8)))))] (AllP.cons (mkOb (All8.cells (ns:=[9]) (.cons rfl .nil)) rfl rfl (good8 _)) (AllP.cons hc5 (AllP.cons (appOb rfl rfl (good8 _)) AllP.nil))) (To.thenN (rg [0,1,7] [67] [(0,.str v0),(ex14 v1),(7,.row 67)] [(67,5,[rc1 (v7 ++ ([9]:List (UInt8)))])] (To.blockN (nt [0,1,7] [67] [(67,1007)] [0,1,7] [1007] [(0,.str v0),(ex14 v1),(7,.row 1007)] [(1007,5,[rc1 (v7 ++ ([9]:List (UInt8)))])] (To.again ?_)))))
          exact ih (IntKind.wrap .i64 (v1 + 2)) (v7 ++ ([9]:List (UInt8))) _ h hQ
         ·refine Wp.seq ?_
          obtain ⟨hc16,h⟩:=chk_of h
          obtain ⟨r6,hr6,h⟩:=lett_of h
          obtain ⟨hc17,h⟩:=chk_of h
          obtain ⟨r7,hr7,h⟩:=lett_of h
          obtain ⟨x8,hx8,h⟩:=lett_of h
          refine rr [] [(14,vi r6),(22,vi r7)] [] [0,1,7,94] [1007] [(0,.str v0),(1,vi v1),(7,.row 1007),(94,vb (bif (bif (ex90 v0 v1) then (decide (r6 < 16)) else false) then (decide (r7 < 16)) else false))] [(1007,5,[rc1 v7])] [_,(((ex90 v0 v1) == true) = true → CX Tryz.prog 104 [.val (.int .u8 (ex59 v0 v1))] (vi r6)),_,(((bif (ex90 v0 v1) then (decide (r6 < 16)) else false) == true) = true → CX Tryz.prog 104 [.val (.int .u8 (ex60 v0 v1))] (vi r7))] (AllP.cons hc16 (AllP.cons (fun _=>cx (ok_ref06_value (ex59 v0 v1) _ hr6)) (AllP.cons hc17 (AllP.cons (fun _=>cx (ok_ref06_value (ex60 v0 v1) _ hr7)) AllP.nil)))) (To.eq (K':=[(0,.str v0),(1,vi v1),(7,.row 1007),(94,vb x8)]) (L':=[(1007,5,[rc1 v7])]) (by cases hx8; rfl) (by cases hx8; rfl) (To.thenN (cn h (fun h=>?_) (fun h=>?_))))
          ·refine Wp.seq ?_
           obtain ⟨hc13,h⟩:=chk_of h
           obtain ⟨r9,hr9,h⟩:=lett_of h
           obtain ⟨hc14,h⟩:=chk_of h
           obtain ⟨r10,hr10,h⟩:=lett_of h
           obtain ⟨u11,h⟩:=chk_of h
           obtain ⟨hc15,h⟩:=chk_of h
           obtain ⟨x12,hx12,h⟩:=lett_of h
           refine Wp.regionD hm hΓ [(5,vi r9),(11,vi r10),(14,rs2 [(UInt8.ofNat (Int.toNat (IntKind.wrap .u8 ((IntKind.wrap .i64 ((IntKind.wrap .i64 (r9 * 16)) + r10))))))]),(15,.row 110),(1015,rs2 (v7 ++ ([(UInt8.ofNat (Int.toNat (IntKind.wrap .u8 ((IntKind.wrap .i64 ((IntKind.wrap .i64 (r9 * 16)) + r10))))))]:List (UInt8))))] [0,1,7] [110] (K':=[(0,.str v0),(1,vi v1),(7,.row 110)]) (L':=[(110,5,[rc1 (v7 ++ ([(UInt8.ofNat (Int.toNat (IntKind.wrap .u8 ((IntKind.wrap .i64 ((IntKind.wrap .i64 (r9 * 16)) + r10))))))]:List (UInt8)))])]) (ob:=[(decide (0 ≤ (IntKind.wrap .i64 (v1 + 2)) ∧ (IntKind.wrap .i64 (v1 + 2)) < (List.length v0:Int))) = true,(true = true → CX Tryz.prog 104 [.val (.int .u8 (ex59 v0 v1))] (vi r9)),(decide (0 ≤ (IntKind.wrap .i64 (v1 + 3)) ∧ (IntKind.wrap .i64 (v1 + 3)) < (List.length v0:Int))) = true,(true = true → CX Tryz.prog 104 [.val (.int .u8 (ex60 v0 v1))] (vi r10)),(true = true → MkOb 1 [.val (.int .u8 (IntKind.wrap .u8 ((IntKind.wrap .i64 ((IntKind.wrap .i64 (r9 * 16)) + r10)))))] 1 (rs2 [(UInt8.ofNat (Int.toNat (IntKind.wrap .u8 ((IntKind.wrap .i64 ((IntKind.wrap .i64 (r9 * 16)) + r10))))))]) ∧ GoodR (rs2 [(UInt8.ofNat (Int.toNat (IntKind.wrap .u8 ((IntKind.wrap .i64 ((IntKind.wrap .i64 (r9 * 16)) + r10))))))])),(decide ((List.length v7 + List.length ([(UInt8.ofNat (Int.toNat (IntKind.wrap .u8 ((IntKind.wrap .i64 ((IntKind.wrap .i64 (r9 * 16)) + r10))))))]:List (UInt8))) * (1 + 1) ≤ limit)) = true,(AppOb 0 e8 v7 (List.flatMap e8 ([(UInt8.ofNat (Int.toNat (IntKind.wrap .u8 ((IntKind.wrap .i64 ((IntKind.wrap .i64 (r9 * 16)) + r10))))))]:List (UInt8))) (List.length ([(UInt8.ofNat (Int.toNat (IntKind.wrap .u8 ((IntKind.wrap .i64 ((IntKind.wrap .i64 (r9 * 16)) + r10))))))]:List (UInt8))) (rs2 (v7 ++ ([(UInt8.ofNat (Int.toNat (IntKind.wrap .u8 ((IntKind.wrap .i64 ((IntKind.wrap .i64 (r9 * 16)) + r10))))))]:List (UInt8)))) ∧ GoodR (rs2 (v7 ++ ([(UInt8.ofNat (Int.toNat (IntKind.wrap .u8 ((IntKind.wrap .i64 ((IntKind.wrap .i64 (r9 * 16)) + r10))))))]:List (UInt8)))))]) (by kernel_rfl) (AllP.cons hc13 (AllP.cons (fun _=>cx (ok_ref06_value (ex59 v0 v1) _ hr9)) (AllP.cons hc14 (AllP.cons (fun _=>cx (ok_ref06_value (ex60 v0 v1) _ hr10)) (AllP.cons (fun _=>mkOb (All8.cells (ns:=[(IntKind.wrap .u8 ((IntKind.wrap .i64 ((IntKind.wrap .i64 (r9 * 16)) + r10))))]) (.cons (u8_of u11) .nil)) rfl rfl (good8 _)) (AllP.cons hc15 (AllP.cons (appOb rfl rfl (good8 _)) AllP.nil))))))) (To.eq (K':=[(0,.str v0),(1,vi v1),(7,.row 110)]) (L':=[(110,5,[rc1 x12])]) (by cases hx12; rfl) (by cases hx12; rfl) (To.thenN (rg [0,1,7] [110] [(0,.str v0),(1,vi (IntKind.wrap .i64 (v1 + 4))),(7,.row 110)] [(110,5,[rc1 x12])] (To.blockN (nt [0,1,7] [110] [(110,1007)] [0,1,7] [1007] [(0,.str v0),(1,vi (IntKind.wrap .i64 (v1 + 4))),(7,.row 1007)] [(1007,5,[rc1 x12])] (To.again ?_))))))
           exact ih (IntKind.wrap .i64 (v1 + 4)) x12 _ h hQ
          ·refine Wp.seq (rg [4,5,6] [] [(4,.str []),(5,vi 0),(6,vb false)] [] (To.thenN (Wp.ret (To.blockR (To.thenR ?_)))))
           cases h
           exact hQ
  ·refine Wp.exit (To.thenX (To.thenX (kt [] [] [] [] ?_)))
   cases h
   exact hQ
def ref06_double (n:Nat) (a0:List UInt8) (a1:Int):Option ((List UInt8) × Int × Bool) :=
 (ref06_double_l1 n a0 n a1 ([]:List (UInt8))).bind fun o1 =>
 (Sum.elim (fun o1=>some ([],0,false)) (fun o1=>some (o1.1,o1.2.1,o1.2.2))) o1
theorem ok_ref06_double (n:Nat) (a0:List UInt8) (a1:Int) (r:(List UInt8) × Int × Bool) (h:ref06_double n a0 a1 = some r):CallsX Tryz.prog 72 [.str a0,vi a1] (.tup [.str r.1,vi r.2.1,vb r.2.2]):=by
 unfold ref06_double at h
 refine xo Tryz.f72 rfl fun F0 w0 _=>?_
 refine Wp.seq (rg [0,1] [] [(0,.str a0),(1,vi a1)] [] (To.thenN (Wp.seq (rr [] [(0,rs2 [])] [] [0,1,7] [10] [(0,.str a0),(1,vi a1),(7,.row 10)] [(10,5,[rc1 []])] [(MkOb 1 [] 0 (rs2 []) ∧ GoodR (rs2 []))] (AllP.cons (mkOb (All8.cells (ns:=[]) .nil) rfl rfl (good8 _)) AllP.nil) (To.thenN (Wp.seq (Wp.block ?_)))))))
 obtain ⟨o1,ho1,h⟩:=bind_of h
 refine nw [0,1,7] [10] [(10,1007)] [0,1,7] [1007] [(0,.str a0),(1,vi a1),(7,.row 1007)] [(1007,5,[rc1 []])] (Wp.loopL (ok_ref06_double_l1 n a0 n a1 ([]:List (UInt8)) o1 ho1 ?_))
 rcases o1 with o1 | o1
 ·replace h:=sum_l h
  refine To.blockX (To.thenN (Wp.seq (rg [4,5,6] [] [(4,.str []),(5,vi 0),(6,vb false)] [] (To.thenN (Wp.ret ?_)))))
  cases h
  exact To.done hΓ (by kernel_rfl)
 ·replace h:=sum_r h
  refine To.blockR (To.thenR ?_)
  cases h
  exact To.done hΓ (by kernel_rfl)
def ref06_single_j2 (n:Nat) (v0:List UInt8) (v1:Int) (v7:List (UInt8)) (v21:Bool):Option (Sum (Int) ((List UInt8) × Int × Bool)) :=
 if v21 = true then (if ((!((decide ((IntKind.wrap .i64 (v1 + 1)) ≥ (List.length v0:Int))) == false) || decide (0 ≤ (IntKind.wrap .i64 (v1 + 1)) ∧ (IntKind.wrap .i64 (v1 + 1)) < (List.length v0:Int)))) = true then (lett ((bif (decide ((IntKind.wrap .i64 (v1 + 1)) ≥ (List.length v0:Int))) then true else ((((v0)[Int.toNat (IntKind.wrap .i64 (v1 + 1))]?.getD 0).toNat:Int) != 39)):Bool) fun x1 =>
 if x1 = true then (some (.inr (v7,(IntKind.wrap .i64 (v1 + 1)),true)))
 else (some (.inl (IntKind.wrap .i64 (v1 + 1))))) else none)
 else (some (.inl v1))
theorem ok_ref06_single_j2 (n:Nat) (v0:List UInt8) (v1:Int) (v7:List (UInt8)) (v21:Bool) (o:Sum (Int) ((List UInt8) × Int × Bool)) (h:ref06_single_j2 n v0 v1 v7 v21 = some o) {F0:Fz} {w0:Pt Tryz.prog} {Q:Exit → Act → World → Prop} (hQ:(Sum.elim (fun s=>To 48 F0 w0 [(0,.str v0),(1,vi s),(7,.row 1007)] [(1007,5,[rc1 v7])] .normal Q) (fun s=>To 48 F0 w0 [(4,.str s.1),(5,vi s.2.1),(6,vb s.2.2)] [] .ret Q)) o):Wp Tryz.prog 48 F0 w0 [(0,.str v0),(1,vi v1),(7,.row 1007),(21,vb v21)] [(1007,5,[rc1 v7])] (cB (cA (cB (cI (cB (cI (cI (cA (cB (cB (cF Tryz.f73))))))))))) Q:=by
 unfold ref06_single_j2 at h
 refine cn h (fun h=>?_) (fun h=>?_)
 ·refine Wp.seq (Wp.seq ?_)
  obtain ⟨hc2,h⟩:=chk_of h
  obtain ⟨x1,hx1,h⟩:=lett_of h
  refine r0 [0,1,7,33] [1007] [(0,.str v0),(1,vi v1),(7,.row 1007),(33,vb (bif (ex61 v1 v0) then true else (((ex7 v0 v1).toNat:Int) != 39)))] [(1007,5,[rc1 v7])] (AllP.cons hc2 AllP.nil) (To.eq (K':=[(0,.str v0),(1,vi v1),(7,.row 1007),(33,vb x1)]) (L':=[(1007,5,[rc1 v7])]) (by cases hx1; rfl) (by cases hx1; rfl) (To.thenN (cn h (fun h=>?_) (fun h=>?_))))
  ·refine Wp.seq (rr [] [(1,.str v7)] [] [4,5,6] [] [(4,.str v7),(ex12 v1),(6,vb true)] [] [(true = true → StrOb (List.flatMap e8 v7) (.str v7))] (AllP.cons (fun _=>strOb (flat8 _)) AllP.nil) (To.thenN (Wp.ret (To.thenR ?_))))
   cases h
   exact hQ
  ·refine Wp.skip (To.thenN (rg [0,1,7] [1007] [(0,.str v0),(ex11 v1),(7,.row 1007)] [(1007,5,[rc1 v7])] (kt [0,1,7] [1007] [(0,.str v0),(ex11 v1),(7,.row 1007)] [(1007,5,[rc1 v7])] ?_)))
   cases h
   exact hQ
 ·refine Wp.skip (kt [0,1,7] [1007] [(0,.str v0),(1,vi v1),(7,.row 1007)] [(1007,5,[rc1 v7])] ?_)
  cases h
  exact hQ
def ref06_single_l1 (n:Nat) (v0:List UInt8):Nat → Int → (List (UInt8)) → Option (Sum (Unit) ((List UInt8) × Int × Bool))
 | 0,_,_=>none
 | k + 1,v1,v7=>if (decide (v1 < (List.length v0:Int))) = true then (if (decide (0 ≤ v1 ∧ v1 < (List.length v0:Int))) = true then (if (!(ref06_Good (((v0)[Int.toNat v1]?.getD 0).toNat:Int))) = true then (some (.inr ([],0,false)))
 else (if (decide (0 ≤ v1 ∧ v1 < (List.length v0:Int))) = true then ((ref06_single_j2 n v0 v1 v7 ((((v0)[Int.toNat v1]?.getD 0).toNat:Int) == 39)).bind fun o1 =>
 (Sum.elim (fun o1=>if (decide (0 ≤ o1 ∧ o1 < (List.length v0:Int))) = true then (if (decide ((List.length v7 + List.length ([((v0)[Int.toNat o1]?.getD 0)]:List (UInt8))) * (1 + 1) ≤ limit)) = true then (ref06_single_l1 n v0 k (IntKind.wrap .i64 (o1 + 1)) (v7 ++ ([((v0)[Int.toNat o1]?.getD 0)]:List (UInt8)))) else none) else none) (fun o1=>some (.inr (o1.1,o1.2.1,o1.2.2)))) o1) else none)) else none)
 else (some (.inl ()))
theorem ok_ref06_single_l1 (n:Nat) (v0:List UInt8) {F0:Fz} {w0:Pt Tryz.prog} {Q:Exit → Act → World → Prop} (k:Nat):∀ (v1:Int) (v7:List (UInt8)) (o:Sum (Unit) ((List UInt8) × Int × Bool)),ref06_single_l1 n v0 k v1 v7 = some o → (Sum.elim (fun s=>To 48 F0 w0 [] [] (.exit 0) Q) (fun s=>To 48 F0 w0 [(4,.str s.1),(5,vi s.2.1),(6,vb s.2.2)] [] .ret Q)) o → WL Tryz.prog 48 F0 w0 [(0,.str v0),(1,vi v1),(7,.row 1007)] [(1007,5,[rc1 v7])] (cI (cI (cA (cB (cB (cF Tryz.f73)))))) Q:=by
 induction k with
 | zero=>intro v1 v7 o h; cases h
 | succ k ih =>
  intro v1 v7 o h hQ
  rw [ref06_single_l1] at h
  refine WL.round (Wp.seq (Wp.seq (rg [0,1,7,12] [1007] [(0,.str v0),(1,vi v1),(7,.row 1007),(12,vb (ex9 v1 v0))] [(1007,5,[rc1 v7])] (To.thenN (cn h (fun h=>?_) (fun h=>?_))))))
  ·refine Wp.skip (To.thenN (Wp.block (Wp.seq (Wp.seq ?_))))
   obtain ⟨hc5,h⟩:=chk_of h
   refine rr [] [(3,vb (ref06_Good (ex6 v0 v1)))] [] [0,1,7,17] [1007] [(0,.str v0),(1,vi v1),(7,.row 1007),(17,vb (!(ref06_Good (ex6 v0 v1))))] [(1007,5,[rc1 v7])] [_,_] (AllP.cons hc5 (AllP.cons (c1 (ok_ref06_Good (ex6 v0 v1) _ rfl)) AllP.nil)) (To.thenN (cn h (fun h=>?_) (fun h=>?_)))
   ·refine Wp.seq (rg [4,5,6] [] [(4,.str []),(5,vi 0),(6,vb false)] [] (To.thenN (Wp.ret (To.thenR (To.blockR (To.thenR ?_))))))
    cases h
    exact hQ
   ·refine Wp.skip (To.thenN (Wp.seq (Wp.seq ?_)))
    obtain ⟨hc4,h⟩:=chk_of h
    refine r0 [0,1,7,21] [1007] [(0,.str v0),(1,vi v1),(7,.row 1007),(21,vb ((ex6 v0 v1) == 39))] [(1007,5,[rc1 v7])] (AllP.cons hc4 AllP.nil) (To.thenN ?_)
    obtain ⟨o1,ho1,h⟩:=bind_of h
    refine kw [0,1,7,21] [1007] [(0,.str v0),(1,vi v1),(7,.row 1007),(21,vb ((ex6 v0 v1) == 39))] [(1007,5,[rc1 v7])] (ok_ref06_single_j2 n v0 v1 v7 ((ex6 v0 v1) == 39) o1 ho1 ?_)
    rcases o1 with o1 | o1
    ·replace h:=sum_l h
     refine To.thenN (Wp.seq ?_)
     obtain ⟨hc2,h⟩:=chk_of h
     obtain ⟨hc3,h⟩:=chk_of h
     refine rr [] [(4,rs2 ([((v0)[Int.toNat o1]?.getD 0)])),(5,rs2 (v7 ++ ([((v0)[Int.toNat o1]?.getD 0)]:List (UInt8))))] [] [0,1,7] [45] [(0,.str v0),(1,vi o1),(7,.row 45)] [(45,5,[rc1 (v7 ++ ([((v0)[Int.toNat o1]?.getD 0)]:List (UInt8)))])] [_,(MkOb 1 [.val (.int .u8 (((v0)[Int.toNat o1]?.getD 0).toNat:Int))] 1 (rs2 ([((v0)[Int.toNat o1]?.getD 0)])) ∧ GoodR (rs2 ([((v0)[Int.toNat o1]?.getD 0)]))),_,(AppOb 0 e8 v7 (List.flatMap e8 ([((v0)[Int.toNat o1]?.getD 0)]:List (UInt8))) (List.length ([((v0)[Int.toNat o1]?.getD 0)]:List (UInt8))) (rs2 (v7 ++ ([((v0)[Int.toNat o1]?.getD 0)]:List (UInt8)))) ∧ GoodR (rs2 (v7 ++ ([((v0)[Int.toNat o1]?.getD 0)]:List (UInt8)))))] (AllP.cons hc2 (AllP.cons (mkOb (All8.cells (ns:=[(((v0)[Int.toNat o1]?.getD 0).toNat:Int)]) (.cons rfl .nil)) rfl rfl (good8 _)) (AllP.cons hc3 (AllP.cons (appOb rfl rfl (good8 _)) AllP.nil)))) (To.thenN (rg [0,1,7] [45] [(0,.str v0),(1,vi (IntKind.wrap .i64 (o1 + 1))),(7,.row 45)] [(45,5,[rc1 (v7 ++ ([((v0)[Int.toNat o1]?.getD 0)]:List (UInt8)))])] (To.blockN (nt [0,1,7] [45] [(45,1007)] [0,1,7] [1007] [(0,.str v0),(1,vi (IntKind.wrap .i64 (o1 + 1))),(7,.row 1007)] [(1007,5,[rc1 (v7 ++ ([((v0)[Int.toNat o1]?.getD 0)]:List (UInt8)))])] (To.again ?_)))))
     exact ih (IntKind.wrap .i64 (o1 + 1)) (v7 ++ ([((v0)[Int.toNat o1]?.getD 0)]:List (UInt8))) _ h hQ
    ·replace h:=sum_r h
     refine To.thenR (To.blockR (To.thenR (kt [4,5,6] [] [(4,.str o1.1),(5,vi o1.2.1),(6,vb o1.2.2)] [] ?_)))
     cases h
     exact hQ
  ·refine Wp.exit (To.thenX (To.thenX (kt [] [] [] [] ?_)))
   cases h
   exact hQ
def ref06_single (n:Nat) (a0:List UInt8) (a1:Int):Option ((List UInt8) × Int × Bool) :=
 (ref06_single_l1 n a0 n a1 ([]:List (UInt8))).bind fun o1 =>
 (Sum.elim (fun o1=>some ([],0,false)) (fun o1=>some (o1.1,o1.2.1,o1.2.2))) o1
theorem ok_ref06_single (n:Nat) (a0:List UInt8) (a1:Int) (r:(List UInt8) × Int × Bool) (h:ref06_single n a0 a1 = some r):CallsX Tryz.prog 73 [.str a0,vi a1] (.tup [.str r.1,vi r.2.1,vb r.2.2]):=by
 unfold ref06_single at h
 refine xo Tryz.f73 rfl fun F0 w0 _=>?_
 refine Wp.seq (rg [0,1] [] [(0,.str a0),(1,vi a1)] [] (To.thenN (Wp.seq (rr [] [(0,rs2 [])] [] [0,1,7] [8] [(0,.str a0),(1,vi a1),(7,.row 8)] [(8,5,[rc1 []])] [(MkOb 1 [] 0 (rs2 []) ∧ GoodR (rs2 []))] (AllP.cons (mkOb (All8.cells (ns:=[]) .nil) rfl rfl (good8 _)) AllP.nil) (To.thenN (Wp.seq (Wp.block ?_)))))))
 obtain ⟨o1,ho1,h⟩:=bind_of h
 refine nw [0,1,7] [8] [(8,1007)] [0,1,7] [1007] [(0,.str a0),(1,vi a1),(7,.row 1007)] [(1007,5,[rc1 []])] (Wp.loopL (ok_ref06_single_l1 n a0 n a1 ([]:List (UInt8)) o1 ho1 ?_))
 rcases o1 with o1 | o1
 ·replace h:=sum_l h
  refine To.blockX (To.thenN (Wp.seq (rg [4,5,6] [] [(4,.str []),(5,vi 0),(6,vb false)] [] (To.thenN (Wp.ret ?_)))))
  cases h
  exact To.done hΓ (by kernel_rfl)
 ·replace h:=sum_r h
  refine To.blockR (To.thenR ?_)
  cases h
  exact To.done hΓ (by kernel_rfl)
def ref06_Scan_j1 (n:Nat) (v0:List UInt8) (v1:Int) (v33:Bool):Option ((List UInt8) × Int × Bool) :=
 if v33 = true then ((ref06_double n v0 (IntKind.wrap .i64 (v1 + 1))).bind fun r2 =>
 some (r2.1,r2.2.1,r2.2.2))
 else ((ref06_single n v0 (IntKind.wrap .i64 (v1 + 1))).bind fun r3 =>
 some (r3.1,r3.2.1,r3.2.2))
theorem ok_ref06_Scan_j1 (n:Nat) (v0:List UInt8) (v1:Int) (v33:Bool) (o:(List UInt8) × Int × Bool) (h:ref06_Scan_j1 n v0 v1 v33 = some o) {F0:Fz} {w0:Pt Tryz.prog} {Q:Exit → Act → World → Prop} (hQ:To 54 F0 w0 [(7,.str o.1),(8,vi o.2.1),(9,vb o.2.2)] [] .normal Q):Wp Tryz.prog 54 F0 w0 [(0,.str v0),(1,vi v1),(33,vb v33)] [] (cB (cA (cB (cB (cB (cB (cB (cF Tryz.f35)))))))) Q:=by
 unfold ref06_Scan_j1 at h
 refine cn h (fun h=>?_) (fun h=>?_)
 ·obtain ⟨r2,hr2,h⟩:=bind_of h
  refine rc [] 3 [7,8,9] [] [(7,.str r2.1),(8,vi r2.2.1),(9,vb r2.2.2)] [] (ok_ref06_double n v0 (IntKind.wrap .i64 (v1 + 1)) _ hr2) (kt [7,8,9] [] [(7,.str r2.1),(8,vi r2.2.1),(9,vb r2.2.2)] [] ?_)
  cases h
  exact hQ
 ·obtain ⟨r3,hr3,h⟩:=bind_of h
  refine rc [] 3 [7,8,9] [] [(7,.str r3.1),(8,vi r3.2.1),(9,vb r3.2.2)] [] (ok_ref06_single n v0 (IntKind.wrap .i64 (v1 + 1)) _ hr3) (kt [7,8,9] [] [(7,.str r3.1),(8,vi r3.2.1),(9,vb r3.2.2)] [] ?_)
  cases h
  exact hQ
def ref06_Scan (n:Nat) (a0:List UInt8) (a1:Int):Option ((List UInt8) × Int × Int) :=
 if ((!((bif (decide (a1 < 0)) then true else (decide (a1 ≥ (List.length a0:Int)))) == false) || decide (0 ≤ a1 ∧ a1 < (List.length a0:Int)))) = true then (if ((!((((((a0)[Int.toNat a1]?.getD 0).toNat:Int) != 34) == true) && ((bif (decide (a1 < 0)) then true else (decide (a1 ≥ (List.length a0:Int)))) == false)) || decide (0 ≤ a1 ∧ a1 < (List.length a0:Int)))) = true then (lett ((bif (bif (decide (a1 < 0)) then true else (decide (a1 ≥ (List.length a0:Int)))) then true else (bif ((((a0)[Int.toNat a1]?.getD 0).toNat:Int) != 34) then ((((a0)[Int.toNat a1]?.getD 0).toNat:Int) != 39) else false)):Bool) fun x1 =>
 if x1 = true then (some ([],0,2))
 else (if (decide (0 ≤ a1 ∧ a1 < (List.length a0:Int))) = true then ((ref06_Scan_j1 n a0 a1 ((((a0)[Int.toNat a1]?.getD 0).toNat:Int) == 34)).bind fun o2 =>
 if (!o2.2.2) = true then (some ([],0,3))
 else (some (o2.1,o2.2.1,0))) else none)) else none) else none
theorem ok_ref06_Scan (n:Nat) (a0:List UInt8) (a1:Int) (r:(List UInt8) × Int × Int) (h:ref06_Scan n a0 a1 = some r):CallsX Tryz.prog 35 [.str a0,vi a1] (.tup [.str r.1,vi r.2.1,vi r.2.2]):=by
 unfold ref06_Scan at h
 refine xo Tryz.f35 rfl fun F0 w0 _=>?_
 refine Wp.seq (rg [0,1] [] [(0,.str a0),(1,vi a1)] [] (To.thenN (Wp.seq (Wp.seq ?_))))
 obtain ⟨hc4,h⟩:=chk_of h
 obtain ⟨hc5,h⟩:=chk_of h
 obtain ⟨x1,hx1,h⟩:=lett_of h
 refine r0 [0,1,29] [] [(0,.str a0),(1,vi a1),(29,vb (bif (ex17 a1 a0) then true else (bif ((ex6 a0 a1) != 34) then ((ex6 a0 a1) != 39) else false)))] [] (AllP.cons hc4 (AllP.cons hc5 AllP.nil)) (To.eq (K':=[(0,.str a0),(1,vi a1),(29,vb x1)]) (L':=[]) (by cases hx1; rfl) (by cases hx1; rfl) (To.thenN (cn h (fun h=>?_) (fun h=>?_))))
 ·refine Wp.seq (rg [4,5,6] [] [(4,.str []),(5,vi 0),(6,vi 2)] [] (To.thenN (Wp.ret (To.thenR ?_))))
  cases h
  exact To.done hΓ (by kernel_rfl)
 ·refine Wp.skip (To.thenN (Wp.seq (rg [0,1] [] [(0,.str a0),(1,vi a1)] [] (To.thenN (Wp.seq (rg [0,1] [] [(0,.str a0),(1,vi a1)] [] (To.thenN (Wp.seq (rg [0,1] [] [(0,.str a0),(1,vi a1)] [] (To.thenN (Wp.seq (Wp.seq ?_))))))))))))
  obtain ⟨hc3,h⟩:=chk_of h
  refine r0 [0,1,33] [] [(0,.str a0),(1,vi a1),(33,vb ((ex6 a0 a1) == 34))] [] (AllP.cons hc3 AllP.nil) (To.thenN ?_)
  obtain ⟨o2,ho2,h⟩:=bind_of h
  refine kw [0,1,33] [] [(0,.str a0),(1,vi a1),(33,vb ((ex6 a0 a1) == 34))] [] (ok_ref06_Scan_j1 n a0 a1 ((ex6 a0 a1) == 34) o2 ho2 (To.thenN (Wp.seq (Wp.seq (rg [7,8,51] [] [(7,.str o2.1),(8,vi o2.2.1),(51,vb (!o2.2.2))] [] (To.thenN (cn h (fun h=>?_) (fun h=>?_))))))))
  ·refine Wp.seq (rg [4,5,6] [] [(4,.str []),(5,vi 0),(6,vi 3)] [] (To.thenN (Wp.ret (To.thenR ?_))))
   cases h
   exact To.done hΓ (by kernel_rfl)
  ·refine Wp.skip (To.thenN (Wp.seq (rg [4,5,6] [] [(4,.str o2.1),(5,vi o2.2.1),(6,vi 0)] [] (To.thenN (Wp.ret ?_)))))
   cases h
   exact To.done hΓ (by kernel_rfl)
def ref07_Say_l1 (n:Nat):Nat → (List UInt8) → Int → Option (Sum ((List UInt8)) ((List UInt8) × Bool))
 | 0,_,_=>none
 | k + 1,v0,v4=>if (decide (v4 < (List.length v0:Int))) = true then ((ref07_begins n v0 v4).bind fun r1 =>
 if (r1 == 2) = true then (if (decide (0 ≤ v4 ∧ v4 ≤ (List.length v0:Int))) = true then (some (.inl (List.take (Int.toNat v4) v0))) else none)
 else (if (r1 == 1) = true then ((ref06_Scan n v0 v4).bind fun r3 =>
 if (r3.2.2 != 0) = true then (some (.inr ([],false)))
 else (ref07_Say_l1 n k v0 r3.2.1))
 else (if (decide (0 ≤ v4 ∧ v4 < (List.length v0:Int))) = true then (if (!(ref06_Good (((v0)[Int.toNat v4]?.getD 0).toNat:Int))) = true then (some (.inr ([],false)))
 else (ref07_Say_l1 n k v0 (IntKind.wrap .i64 (v4 + 1)))) else none)))
 else (some (.inl v0))
theorem ok_ref07_Say_l1 (n:Nat) {F0:Fz} {w0:Pt Tryz.prog} {Q:Exit → Act → World → Prop} (k:Nat):∀ (v0:List UInt8) (v4:Int) (o:Sum ((List UInt8)) ((List UInt8) × Bool)),ref07_Say_l1 n k v0 v4 = some o → (Sum.elim (fun s=>To 57 F0 w0 [(0,.str s)] [] (.exit 0) Q) (fun s=>To 57 F0 w0 [(2,.str s.1),(3,vb s.2)] [] .ret Q)) o → WL Tryz.prog 57 F0 w0 [(0,.str v0),(4,vi v4)] [] (cI (cI (cA (cB (cB (cF Tryz.f59)))))) Q:=by
 induction k with
 | zero=>intro v0 v4 o h; cases h
 | succ k ih =>
  intro v0 v4 o h hQ
  rw [ref07_Say_l1] at h
  refine WL.round (Wp.seq (Wp.seq (rg [0,4,12] [] [(0,.str v0),(4,vi v4),(12,vb (ex9 v4 v0))] [] (To.thenN (cn h (fun h=>?_) (fun h=>?_))))))
  ·refine Wp.skip (To.thenN (Wp.block (Wp.seq ?_)))
   obtain ⟨r1,hr1,h⟩:=bind_of h
   refine rc [] 2 [0,4,5] [] [(0,.str v0),(4,vi v4),(5,vi r1)] [] (ok_ref07_begins n v0 v4 _ hr1) (To.thenN (Wp.seq (Wp.seq (rg [0,4,5,17] [] [(0,.str v0),(4,vi v4),(5,vi r1),(17,vb (r1 == 2))] [] (To.thenN (cn h (fun h=>?_) (fun h=>?_)))))))
   ·refine Wp.seq ?_
    obtain ⟨hc2,h⟩:=chk_of h
    refine r0 [0] [] [(0,.str (List.take (Int.toNat v4) v0))] [] (AllP.cons hc2 AllP.nil) (To.thenN (Wp.exit (To.thenX (To.blockO (by decide) (To.thenX ?_)))))
    cases h
    exact hQ
   ·refine Wp.skip (To.thenN (Wp.seq (Wp.seq (rg [0,4,22] [] [(0,.str v0),(4,vi v4),(22,vb (r1 == 1))] [] (To.thenN (cn h (fun h=>?_) (fun h=>?_)))))))
    ·refine Wp.seq ?_
     obtain ⟨r3,hr3,h⟩:=bind_of h
     refine rc [] 2 [0,7,8] [] [(0,.str v0),(7,vi r3.2.1),(8,vi r3.2.2)] [] (ok_ref06_Scan n v0 v4 _ hr3) (To.thenN (Wp.seq (Wp.seq (rg [0,7,31] [] [(0,.str v0),(7,vi r3.2.1),(31,vb (r3.2.2 != 0))] [] (To.thenN (cn h (fun h=>?_) (fun h=>?_)))))))
     ·refine Wp.seq (rg [2,3] [] [(2,.str []),(3,vb false)] [] (To.thenN (Wp.ret (To.thenR (To.thenR (To.blockR (To.thenR ?_)))))))
      cases h
      exact hQ
     ·refine Wp.skip (To.thenN (Wp.seq (rg [0,4] [] [(0,.str v0),(4,vi r3.2.1)] [] (To.thenN (Wp.exit (To.thenX (To.blockX (To.again ?_))))))))
      exact ih v0 r3.2.1 _ h hQ
    ·refine Wp.skip (To.thenN (Wp.seq (Wp.seq ?_)))
     obtain ⟨hc4,h⟩:=chk_of h
     refine rr [] [(3,vb (ref06_Good (ex6 v0 v4)))] [] [0,4,37] [] [(0,.str v0),(4,vi v4),(37,vb (!(ref06_Good (ex6 v0 v4))))] [] [_,_] (AllP.cons hc4 (AllP.cons (c1 (ok_ref06_Good (ex6 v0 v4) _ rfl)) AllP.nil)) (To.thenN (cn h (fun h=>?_) (fun h=>?_)))
     ·refine Wp.seq (rg [2,3] [] [(2,.str []),(3,vb false)] [] (To.thenN (Wp.ret (To.thenR (To.blockR (To.thenR ?_))))))
      cases h
      exact hQ
     ·refine Wp.skip (To.thenN (rg [0,4] [] [(0,.str v0),(4,vi (IntKind.wrap .i64 (v4 + 1)))] [] (To.blockN (To.again ?_))))
      exact ih v0 (IntKind.wrap .i64 (v4 + 1)) _ h hQ
  ·refine Wp.exit (To.thenX (To.thenX (kt [0] [] [(0,.str v0)] [] ?_)))
   cases h
   exact hQ
def ref07_Say_l2 (n:Nat):Nat → (List UInt8) → Option ((List UInt8))
 | 0,_=>none
 | k + 1,v0=>if ((!((decide ((List.length v0:Int) > 0)) == true) || decide (0 ≤ (IntKind.wrap .i64 ((List.length v0:Int) - 1)) ∧ (IntKind.wrap .i64 ((List.length v0:Int) - 1)) < (List.length v0:Int)))) = true then (lett ((bif (decide ((List.length v0:Int) > 0)) then ((((v0)[Int.toNat (IntKind.wrap .i64 ((List.length v0:Int) - 1))]?.getD 0).toNat:Int) == 32) else false):Bool) fun x2 =>
 if x2 = true then (if (decide (0 ≤ (IntKind.wrap .i64 ((List.length v0:Int) - 1)) ∧ (IntKind.wrap .i64 ((List.length v0:Int) - 1)) ≤ (List.length v0:Int))) = true then (ref07_Say_l2 n k (List.take (Int.toNat (IntKind.wrap .i64 ((List.length v0:Int) - 1))) v0)) else none)
 else some v0) else none
abbrev ex62 (x0:List UInt8):=(decide ((List.length x0:Int) > 0))
abbrev ex92 (x0:List UInt8):=((((x0)[Int.toNat (ex27 x0)]?.getD 0).toNat:Int) == 32)
abbrev ex93 (x0:List UInt8):=(List.take (Int.toNat (ex27 x0)) x0)
theorem ok_ref07_Say_l2 (n:Nat) {F0:Fz} {w0:Pt Tryz.prog} {Q:Exit → Act → World → Prop} (k:Nat):∀ (v0:List UInt8) (o:(List UInt8)),ref07_Say_l2 n k v0 = some o → To 57 F0 w0 [(0,.str o)] [] (.exit 2) Q → WL Tryz.prog 57 F0 w0 [(0,.str v0)] [] (cI (cI (cA (cB (cB (cB (cF Tryz.f59))))))) Q:=by
 induction k with
 | zero=>intro v0 o h; cases h
 | succ k ih =>
  intro v0 o h hQ
  rw [ref07_Say_l2] at h
  refine WL.round (Wp.seq (Wp.seq ?_))
  obtain ⟨hc4,h⟩:=chk_of h
  obtain ⟨x2,hx2,h⟩:=lett_of h
  refine r0 [0,50] [] [(0,.str v0),(50,vb (bif (ex62 v0) then (ex92 v0) else false))] [] (AllP.cons hc4 AllP.nil) (To.eq (K':=[(0,.str v0),(50,vb x2)]) (L':=[]) (by cases hx2; rfl) (by cases hx2; rfl) (To.thenN (cn h (fun h=>?_) (fun h=>?_))))
  ·refine Wp.skip (To.thenN (Wp.block ?_))
   obtain ⟨hc3,h⟩:=chk_of h
   refine r0 [0] [] [(0,.str (ex93 v0))] [] (AllP.cons hc3 AllP.nil) (To.blockN (To.again ?_))
   exact ih (ex93 v0) _ h hQ
  ·refine Wp.exit (To.thenX (To.thenX (kt [0] [] [(0,.str v0)] [] ?_)))
   cases h
   exact hQ
def ref07_Say (n:Nat) (a0:List UInt8):Option ((List UInt8) × Bool) :=
 (ref07_Say_l1 n n a0 0).bind fun o1 =>
 (Sum.elim (fun o1=>(ref07_Say_l2 n n o1).bind fun o2 =>
 some (o2,true)) (fun o1=>some (o1.1,o1.2))) o1
theorem ok_ref07_Say (n:Nat) (a0:List UInt8) (r:(List UInt8) × Bool) (h:ref07_Say n a0 = some r):CallsX Tryz.prog 59 [.str a0] (.tup [.str r.1,vb r.2]):=by
 unfold ref07_Say at h
 refine xo Tryz.f59 rfl fun F0 w0 _=>?_
 refine Wp.seq (rg [0] [] [(0,.str a0)] [] (To.thenN (Wp.seq (rg [0,4] [] [(0,.str a0),(4,vi 0)] [] (To.thenN (Wp.seq (Wp.block ?_)))))))
 obtain ⟨o1,ho1,h⟩:=bind_of h
 refine kw [0,4] [] [(0,.str a0),(4,vi 0)] [] (Wp.loopL (ok_ref07_Say_l1 n n a0 0 o1 ho1 ?_))
 rcases o1 with o1 | o1
 ·replace h:=sum_l h
  refine To.blockX (To.thenN (Wp.seq (Wp.block ?_)))
  obtain ⟨o2,ho2,h⟩:=bind_of h
  refine kw [0] [] [(0,.str o1)] [] (Wp.loopL (ok_ref07_Say_l2 n n o1 o2 ho2 (To.blockX (To.thenN (Wp.seq (rg [2,3] [] [(2,.str o2),(3,vb true)] [] (To.thenN (Wp.ret ?_))))))))
  cases h
  exact To.done hΓ (by kernel_rfl)
 ·replace h:=sum_r h
  refine To.blockR (To.thenR ?_)
  cases h
  exact To.done hΓ (by kernel_rfl)
theorem good_E_ref07_Line (l:List (S_line_Line)):GoodR (.recs (S_line_Line.mk 0 0 []) E_ref07_Line l):=⟨Nat.le_of_ble_eq_true (by kernel_rfl),fun _=>⟨rfl,rfl⟩⟩
def ref07_Split_l2 (n:Nat) (v0:List UInt8) (v5:List (S_line_Line)) (v6:Int):Nat → Int → Option (Int)
 | 0,_=>none
 | k + 1,v7=>if ((!((decide (v7 < (List.length v0:Int))) == true) || decide (0 ≤ v7 ∧ v7 < (List.length v0:Int)))) = true then (if (bif (decide (v7 < (List.length v0:Int))) then ((((v0)[Int.toNat v7]?.getD 0).toNat:Int) != 10) else false) = true then (ref07_Split_l2 n v0 v5 v6 k (IntKind.wrap .i64 (v7 + 1)))
 else some v7) else none
abbrev rc23 (l:List (S_line_Line)):D:=.rowc false (α:=S_line_Line) zx4 E_ref07_Line l
theorem ok_ref07_Split_l2 (n:Nat) (v0:List UInt8) (v5:List (S_line_Line)) (v6:Int) {F0:Fz} {w0:Pt Tryz.prog} {Q:Exit → Act → World → Prop} (k:Nat):∀ (v7:Int) (o:Int),ref07_Split_l2 n v0 v5 v6 k v7 = some o → To 89 F0 w0 [(0,.str v0),(5,.row 1005),(6,vi v6),(7,vi o)] [(1005,57,[rc23 v5])] (.exit 2) Q → WL Tryz.prog 89 F0 w0 [(0,.str v0),(5,.row 1005),(6,vi v6),(7,vi v7)] [(1005,57,[rc23 v5])] (cI (cI (cA (cB (cB (cI (cB (cI (cI (cA (cB (cB (cB (cB (cF Tryz.f27))))))))))))))) Q:=by
 induction k with
 | zero=>intro v7 o h; cases h
 | succ k ih =>
  intro v7 o h hQ
  rw [ref07_Split_l2] at h
  refine WL.round (Wp.seq (Wp.seq ?_))
  obtain ⟨hc1,h⟩:=chk_of h
  refine r0 [0,5,6,7,30] [1005] [(0,.str v0),(5,.row 1005),(6,vi v6),(7,vi v7),(30,vb (bif (ex9 v7 v0) then ((ex6 v0 v7) != 10) else false))] [(1005,57,[rc23 v5])] (AllP.cons hc1 AllP.nil) (To.thenN (cn h (fun h=>?_) (fun h=>?_)))
  ·refine Wp.skip (To.thenN (Wp.block (rg [0,5,6,7] [1005] [(0,.str v0),(5,.row 1005),(6,vi v6),(7,vi (IntKind.wrap .i64 (v7 + 1)))] [(1005,57,[rc23 v5])] (To.blockN (To.again ?_)))))
   exact ih (IntKind.wrap .i64 (v7 + 1)) _ h hQ
  ·refine Wp.exit (To.thenX (To.thenX (kt [0,5,6,7] [1005] [(0,.str v0),(5,.row 1005),(6,vi v6),(7,vi v7)] [(1005,57,[rc23 v5])] ?_)))
   cases h
   exact hQ
def ref07_Split_j3 (n:Nat) (v0:List UInt8) (v5:List (S_line_Line)) (v6:Int) (v7:Int) (v8:List UInt8) (v39:Bool):Option ((List UInt8)) :=
 if v39 = true then (if (decide (0 ≤ (IntKind.wrap .i64 (v7 + 1)) ∧ (IntKind.wrap .i64 (v7 + 1)) ≤ (List.length v0:Int))) = true then (some (List.drop (Int.toNat (IntKind.wrap .i64 (v7 + 1))) v0)) else none)
 else (some [])
theorem ok_ref07_Split_j3 (n:Nat) (v0:List UInt8) (v5:List (S_line_Line)) (v6:Int) (v7:Int) (v8:List UInt8) (v39:Bool) (o:(List UInt8)) (h:ref07_Split_j3 n v0 v5 v6 v7 v8 v39 = some o) {F0:Fz} {w0:Pt Tryz.prog} {Q:Exit → Act → World → Prop} (hQ:To 89 F0 w0 [(0,.str o),(5,.row 1005),(6,vi v6),(8,.str v8)] [(1005,57,[rc23 v5])] .normal Q):Wp Tryz.prog 89 F0 w0 [(0,.str v0),(5,.row 1005),(6,vi v6),(7,vi v7),(8,.str v8),(39,vb v39)] [(1005,57,[rc23 v5])] (cB (cA (cB (cB (cB (cB (cI (cB (cI (cI (cA (cB (cB (cB (cB (cF Tryz.f27)))))))))))))))) Q:=by
 unfold ref07_Split_j3 at h
 refine cn h (fun h=>?_) (fun h=>?_)
 ·obtain ⟨hc2,h⟩:=chk_of h
  refine r0 [0,5,6,8] [1005] [(0,.str (List.drop (Int.toNat (IntKind.wrap .i64 (v7 + 1))) v0)),(5,.row 1005),(6,vi v6),(8,.str v8)] [(1005,57,[rc23 v5])] (AllP.cons hc2 AllP.nil) (kt [0,5,6,8] [1005] [(0,.str (List.drop (Int.toNat (IntKind.wrap .i64 (v7 + 1))) v0)),(5,.row 1005),(6,vi v6),(8,.str v8)] [(1005,57,[rc23 v5])] ?_)
  cases h
  exact hQ
 ·refine rg [0,5,6,8] [1005] [(0,.str []),(5,.row 1005),(6,vi v6),(8,.str v8)] [(1005,57,[rc23 v5])] (kt [0,5,6,8] [1005] [(0,.str []),(5,.row 1005),(6,vi v6),(8,.str v8)] [(1005,57,[rc23 v5])] ?_)
  cases h
  exact hQ
def ref07_Split_l4 (n:Nat) (v0:List UInt8) (v5:List (S_line_Line)) (v6:Int) (v8:List UInt8):Nat → Int → Option (Int)
 | 0,_=>none
 | k + 1,v9=>if ((!((decide (v9 < (List.length v8:Int))) == true) || decide (0 ≤ v9 ∧ v9 < (List.length v8:Int)))) = true then (if (bif (decide (v9 < (List.length v8:Int))) then ((((v8)[Int.toNat v9]?.getD 0).toNat:Int) == 32) else false) = true then (ref07_Split_l4 n v0 v5 v6 v8 k (IntKind.wrap .i64 (v9 + 1)))
 else some v9) else none
end Go.Proofs.YtefojkdckfidcaaGreatDoor.M
