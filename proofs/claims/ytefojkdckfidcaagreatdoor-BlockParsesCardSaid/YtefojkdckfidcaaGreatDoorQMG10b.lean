import Derived.Test.YtefojkdckfidcaaGreatDoorQMG10a
set_option linter.all false
namespace Go.Proofs.YtefojkdckfidcaaGreatDoor.M
open Go.RowKit Go.Proofs.YtefojkdckfidcaaGreatDoor.RX
set_option maxRecDepth 100000
abbrev hR11 (R_block_reader_block__o0_s2:S_block_reader → Option (S_api_Node × S_block_reader)):Prop:=∀ (h0:S_block_reader) (r:S_api_Node × S_block_reader),R_block_reader_block__o0_s2 h0 = some r → CallsB Tryz.prog 24 [.own 1000000 0] [(1000000,46,[.row 1010000,vi h0.f_at,vi h0.f_no,vi h0.f_e]),(1010000,50,[rc5 h0.f_l])] (.agg [vi r.1.f_Kind,.str r.1.f_Text,ls r.1.f_Keys,tn8 r.1.f_Kids]) [(200,50,[rc5 r.2.f_l]),(1000000,46,[.row 200,vi r.2.f_at,vi r.2.f_no,vi r.2.f_e])]
theorem ok_block_reader_inner__o0_s2 (R_block_reader_block__o0_s2:S_block_reader → Option (S_api_Node × S_block_reader)) (hR_block_reader_block__o0_s2:hR11 R_block_reader_block__o0_s2) (n:Nat) (a1:Int) (a2:Bool) (h0:S_block_reader) (r:S_api_Node × S_block_reader) (h:block_reader_inner__o0_s2 R_block_reader_block__o0_s2 n a1 a2 h0 = some r):CallsB Tryz.prog 86 [.own 1000000 0,vi a1,vb a2] [(1000000,46,qc10 1010000 h0),(1010000,50,[rc5 h0.f_l])] (.agg (qc9 r.1)) [(200,50,[rc5 r.2.f_l]),(1000000,46,qc10 200 r.2)]:=by
 unfold block_reader_inner__o0_s2 at h
 refine bo Tryz.f86 rfl fun F0 w0=>?_
 refine nw [0,1,2] [1000000,1010000] [(1010000,504000)] [0,1,2] [504000,1000000] [(0,.own 1000000 0),(1,vi a1),(2,vb a2)] [(504000,50,[rc5 h0.f_l]),(1000000,46,qc10 504000 h0)] (Wp.seq (rg [0,1,2,6] [6,504000,1000000] [(0,.own 1000000 0),(1,vi a1),(2,vb a2),(6,.own 6 0)] [(6,26,[vi 0,.str [],.val (.slice none 0 0),.val (.slice none 0 0)]),(504000,50,[rc5 h0.f_l]),(1000000,46,qc10 504000 h0)] (To.thenN (Wp.seq ?_))))
 obtain ⟨r1,hr1,h⟩:=bind_of h
 refine rb [] 2 ⟨[(1000000,1000000),(1010000,504000)],[(200,504000),(1000000,1000000)],[.own 1000000 0,vi a1],[(1000000,46,qc10 1010000 h0),(1010000,50,[rc5 h0.f_l])],.tup [.agg (qc3 r1.1),vb r1.2.1],[(200,50,[rc5 r1.2.2.f_l]),(1000000,46,qc10 200 r1.2.2)]⟩ [0,1,2,6,7,8] [6,7,504000,1000000] [(0,.own 1000000 0),(1,vi a1),(2,vb a2),(6,.own 6 0),(7,.own 7 0),(8,vb r1.2.1)] [(6,26,[vi 0,.str [],.val (.slice none 0 0),.val (.slice none 0 0)]),(7,50,qc3 r1.1),(504000,50,[rc5 r1.2.2.f_l]),(1000000,46,qc10 504000 r1.2.2)] ((ok_block_reader_more__o0_s2 n a1 h0 _ hr1)) (To.thenN (Wp.seq (Wp.seq ?_)))
 obtain ⟨x2,hx2,h⟩:=lett_of h
 refine Wp.regionD hm hΓ [(33,vb (block_Row r1.1.f_Text))] [0,6,51] [6,504000,1000000] (K':=[(0,.own 1000000 0),(6,.own 6 0),(51,vb (bif (!r1.2.1) then (bif (bif (bif (bif (!a2) then true else (r1.2.2.f_e != 0)) then true else (r1.2.2.f_at == (List.length r1.2.2.f_l:Int))) then true else (r1.1.f_Indent != a1)) then true else (!(block_Row r1.1.f_Text))) else false))]) (L':=[(6,26,[vi 0,.str [],.val (.slice none 0 0),.val (.slice none 0 0)]),(504000,50,[rc5 r1.2.2.f_l]),(1000000,46,qc10 504000 r1.2.2)]) (ob:=[((((bif (bif (bif (!a2) then true else (r1.2.2.f_e != 0)) then true else (r1.2.2.f_at == (List.length r1.2.2.f_l:Int))) then true else (r1.1.f_Indent != a1)) == false) && ((!r1.2.1) == true)) = true → CX Tryz.prog 14 [.str r1.1.f_Text] (vb (block_Row r1.1.f_Text)))]) (by kernel_rfl) (AllP.cons (fun _=>cx (ok_block_Row r1.1.f_Text _ rfl)) AllP.nil) (To.eq (K':=[(0,.own 1000000 0),(6,.own 6 0),(51,vb x2)]) (L':=[(6,26,[vi 0,.str [],.val (.slice none 0 0),.val (.slice none 0 0)]),(504000,50,[rc5 r1.2.2.f_l]),(1000000,46,qc10 504000 r1.2.2)]) (by cases hx2; rfl) (by cases hx2; rfl) (To.thenN (cn h (fun h=>?_) (fun h=>?_))))
 ·refine Wp.seq (rg [6] [6,504000,1000000] [(6,.own 6 0)] [(6,26,[vi 0,.str [],.val (.slice none 0 0),.val (.slice none 0 0)]),(504000,50,[rc5 r1.2.2.f_l]),(1000000,46,qc10 504000 r1.2.2)] (To.thenN (Wp.ret (To.thenR (To.weak (K':=[(6,.own 6 0)]) (L':=[(6,26,[vi 0,.str [],ls [],tn8 []]),(504000,50,[rc5 r1.2.2.f_l]),(1000000,46,qc10 504000 r1.2.2)]) (.cons (.refl _) .nil) (.cons (.cons (.refl _) (.cons (.refl _) (.cons (.zero _ _) (.cons (.zeroT _ _ _) .nil)))) (.cons (.cons (.refl _) .nil) (.cons (.cons (.refl _) (.cons (.refl _) (.cons (.refl _) (.cons (.refl _) .nil)))) .nil))) (To.pre (St.rename 504000 200 (by decide) (K':=[(6,.own 6 0)]) (L':=[(6,26,[vi 0,.str [],ls [],tn8 []]),(200,50,[rc5 r1.2.2.f_l]),(1000000,46,qc10 200 r1.2.2)]) (by kernel_rfl) (by kernel_rfl) (by kernel_rfl)) ?_))))))
  cases h
  exact To.doneB hΓ [200,1000000] (by kernel_rfl) (by kernel_rfl)
 ·refine Wp.skip (To.thenN (Wp.seq ?_))
  obtain ⟨r3,hr3,h⟩:=bind_of h
  refine rb [] 1 ⟨[(1000000,1000000),(1010000,504000)],[(200,504000),(1000000,1000000)],[.own 1000000 0],[(1000000,46,qc10 1010000 r1.2.2),(1010000,50,[rc5 r1.2.2.f_l])],.agg (qc9 r3.1),[(200,50,[rc5 r3.2.f_l]),(1000000,46,qc10 200 r3.2)]⟩ [6] [6,504000,1000000] [(6,.own 6 0)] [(6,26,qc9 r3.1),(504000,50,[rc5 r3.2.f_l]),(1000000,46,qc10 504000 r3.2)] ((hR_block_reader_block__o0_s2 r1.2.2 _ hr3)) (To.thenN (Wp.ret (nt [6] [6,504000,1000000] [(504000,200)] [6] [6,200,1000000] [(6,.own 6 0)] [(6,26,qc9 r3.1),(200,50,[rc5 r3.2.f_l]),(1000000,46,qc10 200 r3.2)] ?_)))
  cases h
  exact To.doneB hΓ [200,1000000] (by kernel_rfl) (by kernel_rfl)
def block_reader_row__o0_s2_l1 (R_block_reader_block__o0_s2:S_block_reader → Option (S_api_Node × S_block_reader)) (n:Nat) (v1:Int):Nat → S_api_Node → S_api_Node → S_block_reader → Option (Sum (S_api_Node × S_api_Node × S_block_reader) (S_api_Node × S_block_reader))
 | 0,_,_,_=>none
 | k + 1,b4,b5,b1000000=>if (bif (b1000000.f_e == 0) then (decide (b1000000.f_at < (List.length b1000000.f_l:Int))) else false) = true then (if (decide (0 ≤ b1000000.f_at ∧ b1000000.f_at < (List.length b1000000.f_l:Int))) = true then (if (decide ((((b1000000.f_l)[Int.toNat b1000000.f_at]?.getD (S_line_Line.mk 0 0 [])).f_Indent) > v1)) = true then (lett (block_reader_fail__o0_s2 (((b1000000.f_l)[Int.toNat b1000000.f_at]?.getD (S_line_Line.mk 0 0 [])).f_No) 3 b1000000) fun r1 =>
 some (.inr (r1.1,r1.2)))
 else (lett (block_Row (((b1000000.f_l)[Int.toNat b1000000.f_at]?.getD (S_line_Line.mk 0 0 [])).f_Text)) fun r2 =>
 lett ((bif (decide ((((b1000000.f_l)[Int.toNat b1000000.f_at]?.getD (S_line_Line.mk 0 0 [])).f_Indent) < v1)) then true else (!r2)):Bool) fun x3 =>
 if x3 = true then (some (.inl (b4,b5,b1000000)))
 else (if ((((b1000000.f_l)[Int.toNat b1000000.f_at]?.getD (S_line_Line.mk 0 0 [])).f_Text) == [45]) = true then ((block_reader_inner__o0_s2 R_block_reader_block__o0_s2 n v1 false (S_block_reader.mk b1000000.f_l (IntKind.wrap .i64 (b1000000.f_at + 1)) b1000000.f_no b1000000.f_e)).bind fun r4 =>
 if (decide ((List.length b5.f_Kids + List.length ([r4.1]:List (S_api_Node))) * (72 + 1) ≤ limit)) = true then (block_reader_row__o0_s2_l1 R_block_reader_block__o0_s2 n v1 k b4 (S_api_Node.mk b5.f_Kind b5.f_Text b5.f_Keys (b5.f_Kids ++ ([r4.1]:List (S_api_Node)))) r4.2) else none)
 else ((line_Cut n ((b1000000.f_l)[Int.toNat b1000000.f_at]?.getD (S_line_Line.mk 0 0 [])) 1).bind fun r6 =>
 if (decide (0 ≤ b1000000.f_at ∧ b1000000.f_at < (List.length b1000000.f_l:Int))) = true then ((R_block_reader_block__o0_s2 (S_block_reader.mk (List.set b1000000.f_l (Int.toNat b1000000.f_at) r6) b1000000.f_at b1000000.f_no b1000000.f_e)).bind fun r7 =>
 if (decide ((List.length b5.f_Kids + List.length ([r7.1]:List (S_api_Node))) * (72 + 1) ≤ limit)) = true then (block_reader_row__o0_s2_l1 R_block_reader_block__o0_s2 n v1 k b4 (S_api_Node.mk b5.f_Kind b5.f_Text b5.f_Keys (b5.f_Kids ++ ([r7.1]:List (S_api_Node)))) r7.2) else none) else none)))) else none)
 else (some (.inl (b4,b5,b1000000)))
abbrev rc12 (l:List (S_api_Node)):D:=.rowc false (α:=S_api_Node) zx7 E_api_Node l
abbrev rs13 (l:List (S_api_Node)):D:=.recs (α:=S_api_Node) zx7 E_api_Node l
abbrev qc14 (k0:Nat) (x:S_api_Node):List D:=[vi x.f_Kind,.str x.f_Text,ls x.f_Keys,.row k0]
abbrev ex35 (x0:S_block_reader):Nat × Nat × List D:=(6,50,[vi (((x0.f_l)[Int.toNat x0.f_at]?.getD zx4).f_No),vi (((x0.f_l)[Int.toNat x0.f_at]?.getD zx4).f_Indent),.str (((x0.f_l)[Int.toNat x0.f_at]?.getD zx4).f_Text)])
abbrev ex36 (x0:S_block_reader):Nat × Nat × List D:=(1000000,46,[.row 504000,vi (IntKind.wrap .i64 (x0.f_at + 1)),vi x0.f_no,vi x0.f_e])
abbrev ex37 (x0:S_block_reader):=(decide (0 ≤ x0.f_at ∧ x0.f_at < (List.length x0.f_l:Int)))
abbrev ex38 (x0:S_block_reader):Nat × Nat × List D:=(1000000,46,qc10 1010000 x0)
abbrev ex39 (x0:S_block_reader):Nat × Nat × List D:=(1010000,50,[rc5 x0.f_l])
abbrev ex40 (x0:S_block_reader):Nat × Nat × List D:=(1000000,46,[.row 1010000,vi (IntKind.wrap .i64 (x0.f_at + 1)),vi x0.f_no,vi x0.f_e])
abbrev ex41 (x0:S_block_reader):=(bif (x0.f_e == 0) then (decide (x0.f_at < (List.length x0.f_l:Int))) else false)
abbrev ex42 (x0:S_block_reader) (x1:Int):=(decide ((((x0.f_l)[Int.toNat x0.f_at]?.getD zx4).f_Indent) > x1))
abbrev ex43 (x0:S_block_reader):=(S_block_reader.mk x0.f_l (IntKind.wrap .i64 (x0.f_at + 1)) x0.f_no x0.f_e)
abbrev ex86 (x0:S_block_reader):=((x0.f_l)[Int.toNat x0.f_at]?.getD zx4)
theorem ok_block_reader_row__o0_s2_l1 (R_block_reader_block__o0_s2:S_block_reader → Option (S_api_Node × S_block_reader)) (hR_block_reader_block__o0_s2:hR11 R_block_reader_block__o0_s2) (n:Nat) (v1:Int) {F0:Fz} {w0:Pt Tryz.prog} {Q:Exit → Act → World → Prop} (k:Nat):∀ (b4:S_api_Node) (b5:S_api_Node) (b1000000:S_block_reader) (o:Sum (S_api_Node × S_api_Node × S_block_reader) (S_api_Node × S_block_reader)),block_reader_row__o0_s2_l1 R_block_reader_block__o0_s2 n v1 k b4 b5 b1000000 = some o → (Sum.elim (fun s=>To 93 F0 w0 [(4,.own 4 0),(5,.own 5 0)] [(4,26,qc9 s.1),(5,26,qc14 4303 s.2.1),(4303,26,[rc12 s.2.1.f_Kids]),(504000,50,[rc5 s.2.2.f_l]),(1000000,46,qc10 504000 s.2.2)] (.exit 0) Q) (fun s=>To 93 F0 w0 [(4,.own 4 0)] [(4,26,qc9 s.1),(504000,50,[rc5 s.2.f_l]),(1000000,46,qc10 504000 s.2)] .ret Q)) o → WL Tryz.prog 93 F0 w0 [(0,.own 1000000 0),(1,vi v1),(4,.own 4 0),(5,.own 5 0)] [(4,26,qc9 b4),(5,26,qc14 4303 b5),(4303,26,[rc12 b5.f_Kids]),(ex33 b1000000),(ex34 b1000000)] (cI (cI (cA (cB (cB (cI (cB (cF Tryz.f55)))))))) Q:=by
 induction k with
 | zero=>intro b4 b5 b1000000 o h; cases h
 | succ k ih =>
  intro b4 b5 b1000000 o h hQ
  rw [block_reader_row__o0_s2_l1] at h
  refine WL.round (Wp.seq (Wp.seq (Wp.regionD hm hΓ [] [0,1,4,5,24] [4,5,4303,504000,1000000] (K':=[(0,.own 1000000 0),(1,vi v1),(4,.own 4 0),(5,.own 5 0),(24,vb (ex41 b1000000))]) (L':=[(4,26,qc9 b4),(5,26,qc14 4303 b5),(4303,26,[rc12 b5.f_Kids]),(ex33 b1000000),(ex34 b1000000)]) (ob:=[]) (by kernel_rfl) AllP.nil (To.thenN (cn h (fun h=>?_) (fun h=>?_))))))
  ·refine Wp.skip (To.thenN (Wp.block (Wp.seq ?_)))
   obtain ⟨hc10,h⟩:=chk_of h
   refine Wp.regionD hm hΓ [] [0,1,4,5,6] [4,5,6,4303,504000,1000000] (K':=[(0,.own 1000000 0),(1,vi v1),(4,.own 4 0),(5,.own 5 0),(6,.own 6 0)]) (L':=[(4,26,qc9 b4),(5,26,qc14 4303 b5),(ex35 b1000000),(4303,26,[rc12 b5.f_Kids]),(ex33 b1000000),(ex34 b1000000)]) (ob:=[(ex37 b1000000) = true,(ex37 b1000000) = true]) (by kernel_rfl) (AllP.cons hc10 (AllP.cons hc10 AllP.nil)) (To.thenN (Wp.block (Wp.seq (rg [0,1,4,5,6,53] [4,5,6,4303,504000,1000000] [(0,.own 1000000 0),(1,vi v1),(4,.own 4 0),(5,.own 5 0),(6,.own 6 0),(53,vb (ex42 b1000000 v1))] [(4,26,qc9 b4),(5,26,qc14 4303 b5),(ex35 b1000000),(4303,26,[rc12 b5.f_Kids]),(ex33 b1000000),(ex34 b1000000)] (To.thenN (cn h (fun h=>?_) (fun h=>?_)))))))
   ·refine Wp.seq ?_
    obtain ⟨r1,hr1,h⟩:=lett_of h
    refine rb [] 3 ⟨[(1000000,1000000),(1010000,504000)],[(200,504000),(1000000,1000000)],[.own 1000000 0,vi ((ex86 b1000000).f_No),vi 3],[(ex38 b1000000),(ex39 b1000000)],.agg (qc9 r1.1),[(200,50,[rc5 r1.2.f_l]),(1000000,46,qc10 200 r1.2)]⟩ [4] [4,504000,1000000] [(4,.own 4 0)] [(4,26,qc9 r1.1),(504000,50,[rc5 r1.2.f_l]),(1000000,46,qc10 504000 r1.2)] ((ok_block_reader_fail__o0_s2 ((ex86 b1000000).f_No) 3 b1000000 _ hr1)) (To.thenN (Wp.ret (To.blockR (To.blockR (To.thenR ?_)))))
    cases h
    exact hQ
   ·refine Wp.seq ?_
    obtain ⟨r2,hr2,h⟩:=lett_of h
    obtain ⟨x3,hx3,h⟩:=lett_of h
    refine rr [] [(7,vb r2)] [] [0,1,4,5,6,62] [4,5,6,4303,504000,1000000] [(0,.own 1000000 0),(1,vi v1),(4,.own 4 0),(5,.own 5 0),(6,.own 6 0),(62,vb (bif (decide (((ex86 b1000000).f_Indent) < v1)) then true else (!r2)))] [(4,26,qc9 b4),(5,26,qc14 4303 b5),(ex35 b1000000),(4303,26,[rc12 b5.f_Kids]),(ex33 b1000000),(ex34 b1000000)] [(((decide (((ex86 b1000000).f_Indent) < v1)) == false) = true → CX Tryz.prog 14 [.str ((ex86 b1000000).f_Text)] (vb r2))] (AllP.cons (fun _=>cx (ok_block_Row ((ex86 b1000000).f_Text) _ hr2)) AllP.nil) (To.eq (K':=[(0,.own 1000000 0),(1,vi v1),(4,.own 4 0),(5,.own 5 0),(6,.own 6 0),(62,vb x3)]) (L':=[(4,26,qc9 b4),(5,26,qc14 4303 b5),(ex35 b1000000),(4303,26,[rc12 b5.f_Kids]),(ex33 b1000000),(ex34 b1000000)]) (by cases hx3; rfl) (by cases hx3; rfl) (To.thenN (cn h (fun h=>?_) (fun h=>?_))))
    ·refine Wp.exit (To.blockO (by decide) (To.blockO (by decide) (To.thenX (kt [4,5] [4,5,4303,504000,1000000] [(4,.own 4 0),(5,.own 5 0)] [(4,26,qc9 b4),(5,26,qc14 4303 b5),(4303,26,[rc12 b5.f_Kids]),(ex33 b1000000),(ex34 b1000000)] ?_))))
     cases h
     exact hQ
    ·refine Wp.seq (rg [0,1,4,5,6,73] [4,5,6,4303,504000,1000000] [(0,.own 1000000 0),(1,vi v1),(4,.own 4 0),(5,.own 5 0),(6,.own 6 0),(73,vb (((ex86 b1000000).f_Text) == [45]))] [(4,26,qc9 b4),(5,26,qc14 4303 b5),(ex35 b1000000),(4303,26,[rc12 b5.f_Kids]),(ex33 b1000000),(ex34 b1000000)] (To.thenN (cn h (fun h=>?_) (fun h=>?_))))
     ·refine Wp.seq (rg [0,1,4,5] [4,5,4303,504000,1000000] [(0,.own 1000000 0),(1,vi v1),(4,.own 4 0),(5,.own 5 0)] [(4,26,qc9 b4),(5,26,qc14 4303 b5),(4303,26,[rc12 b5.f_Kids]),(ex33 b1000000),(ex36 b1000000)] (To.thenN ?_))
      obtain ⟨r4,hr4,h⟩:=bind_of h
      obtain ⟨hc5,h⟩:=chk_of h
      refine Wp.regionO hm hΓ [] [(5,rs13 [r4.1]),(6,rs13 (b5.f_Kids ++ ([r4.1]:List (S_api_Node))))] [(4,⟨[(1000000,1000000),(1010000,504000)],[(200,504000),(1000000,1000000)],[.own 1000000 0,vi v1,vb false],[(ex40 b1000000),(ex39 b1000000)],.agg (qc9 r4.1),[(200,50,[rc5 r4.2.f_l]),(1000000,46,qc10 200 r4.2)]⟩)] [0,1,4,5,84,85,86,87,88,89,90,91] [4,5,89,90,4303,504000,1000000] [0,1,4,5] [4,5,90,504000,1000000] (K':=[(0,.own 1000000 0),(1,vi v1),(4,.own 4 0),(5,.own 5 0)]) (L':=[(4,26,qc9 b4),(5,26,qc14 90 b5),(90,26,[rc12 (b5.f_Kids ++ ([r4.1]:List (S_api_Node)))]),(504000,50,[rc5 r4.2.f_l]),(1000000,46,qc10 504000 r4.2)]) (ob:=[CbOb (CallsB Tryz.prog) 86 [.own 1000000 0,vi v1,vb false] [some (46,[.row 504000,vi (IntKind.wrap .i64 (b1000000.f_at + 1)),vi b1000000.f_no,vi b1000000.f_e]),some (50,[rc5 b1000000.f_l])] ⟨[(1000000,1000000),(1010000,504000)],[(200,504000),(1000000,1000000)],[.own 1000000 0,vi v1,vb false],[(ex40 b1000000),(ex39 b1000000)],.agg (qc9 r4.1),[(200,50,[rc5 r4.2.f_l]),(1000000,46,qc10 200 r4.2)]⟩,(MkOb 4 (qc9 r4.1) 1 (rs13 [r4.1]) ∧ GoodR (rs13 [r4.1])),(decide ((List.length b5.f_Kids + List.length ([r4.1]:List (S_api_Node))) * (72 + 1) ≤ limit)) = true,(AppOb zx7 E_api_Node b5.f_Kids (List.flatMap E_api_Node ([r4.1]:List (S_api_Node))) (List.length ([r4.1]:List (S_api_Node))) (rs13 (b5.f_Kids ++ ([r4.1]:List (S_api_Node)))) ∧ GoodR (rs13 (b5.f_Kids ++ ([r4.1]:List (S_api_Node)))))]) (by kernel_rfl) (by kernel_rfl) (AllP.cons (⟨(ok_block_reader_inner__o0_s2 R_block_reader_block__o0_s2 hR_block_reader_block__o0_s2 n v1 false (ex43 b1000000) _ hr4),by kernel_rfl,by kernel_rfl⟩) (AllP.cons (mkOb (by kernel_rfl) rfl (by kernel_rfl) (good_E_api_Node _)) (AllP.cons hc5 (AllP.cons (appOb rfl rfl (good_E_api_Node _)) AllP.nil)))) ?_
      refine To.blockN (To.blockN (nt [0,1,4,5] [4,5,90,504000,1000000] [(90,4303)] [0,1,4,5] [4,5,4303,504000,1000000] [(0,.own 1000000 0),(1,vi v1),(4,.own 4 0),(5,.own 5 0)] [(4,26,qc9 b4),(5,26,qc14 4303 b5),(4303,26,[rc12 (b5.f_Kids ++ ([r4.1]:List (S_api_Node)))]),(504000,50,[rc5 r4.2.f_l]),(1000000,46,qc10 504000 r4.2)] (To.again ?_)))
      exact ih b4 (S_api_Node.mk b5.f_Kind b5.f_Text b5.f_Keys (b5.f_Kids ++ ([r4.1]:List (S_api_Node)))) r4.2 _ h hQ
     ·refine Wp.seq ?_
      obtain ⟨r6,hr6,h⟩:=bind_of h
      obtain ⟨hc9,h⟩:=chk_of h
      refine Wp.regionS hm hΓ 10 [] [(9,.agg (qc3 r6)),(11,rs6 (List.set b1000000.f_l (Int.toNat b1000000.f_at) r6))] [] [0,1,4,5] [4,5,4303,504000,1000000] (K':=[(0,.own 1000000 0),(1,vi v1),(4,.own 4 0),(5,.own 5 0)]) (L':=[(4,26,qc9 b4),(5,26,qc14 4303 b5),(4303,26,[rc12 b5.f_Kids]),(504000,50,[rc5 (List.set b1000000.f_l (Int.toNat b1000000.f_at) r6)]),(ex34 b1000000)]) (ob:=[(true = true → CX Tryz.prog 87 [.agg [vi ((ex86 b1000000).f_No),vi ((ex86 b1000000).f_Indent),.str ((ex86 b1000000).f_Text)],vi 1] (.agg (qc3 r6))),(ex37 b1000000) = true,(ex37 b1000000) = true,UpdOb zx4 E_line_Line b1000000.f_l b1000000.f_at 0 (qc3 r6) (rs6 (List.set b1000000.f_l (Int.toNat b1000000.f_at) r6))]) (by kernel_rfl) (AllP.cons (fun _=>cx (ok_line_Cut n (ex86 b1000000) 1 _ hr6)) (AllP.cons hc9 (AllP.cons hc9 (AllP.cons (updOb (by kernel_rfl)) AllP.nil)))) (To.thenN ?_)
      obtain ⟨r7,hr7,h⟩:=bind_of h
      obtain ⟨hc8,h⟩:=chk_of h
      refine Wp.regionO hm hΓ [] [(4,rs13 [r7.1]),(5,rs13 (b5.f_Kids ++ ([r7.1]:List (S_api_Node))))] [(3,⟨[(1000000,1000000),(1010000,504000)],[(200,504000),(1000000,1000000)],[.own 1000000 0],[(ex38 b1000000),(1010000,50,[rc5 (List.set b1000000.f_l (Int.toNat b1000000.f_at) r6)])],.agg (qc9 r7.1),[(200,50,[rc5 r7.2.f_l]),(1000000,46,qc10 200 r7.2)]⟩)] [0,1,4,5,46,47,48,49,50,51,52] [4,5,50,51,4303,504000,1000000] [0,1,4,5] [4,5,51,504000,1000000] (K':=[(0,.own 1000000 0),(1,vi v1),(4,.own 4 0),(5,.own 5 0)]) (L':=[(4,26,qc9 b4),(5,26,qc14 51 b5),(51,26,[rc12 (b5.f_Kids ++ ([r7.1]:List (S_api_Node)))]),(504000,50,[rc5 r7.2.f_l]),(1000000,46,qc10 504000 r7.2)]) (ob:=[CbOb (CallsB Tryz.prog) 24 [.own 1000000 0] [some (46,qc10 504000 b1000000),some (50,[rc5 (List.set b1000000.f_l (Int.toNat b1000000.f_at) r6)])] ⟨[(1000000,1000000),(1010000,504000)],[(200,504000),(1000000,1000000)],[.own 1000000 0],[(ex38 b1000000),(1010000,50,[rc5 (List.set b1000000.f_l (Int.toNat b1000000.f_at) r6)])],.agg (qc9 r7.1),[(200,50,[rc5 r7.2.f_l]),(1000000,46,qc10 200 r7.2)]⟩,(MkOb 4 (qc9 r7.1) 1 (rs13 [r7.1]) ∧ GoodR (rs13 [r7.1])),(decide ((List.length b5.f_Kids + List.length ([r7.1]:List (S_api_Node))) * (72 + 1) ≤ limit)) = true,(AppOb zx7 E_api_Node b5.f_Kids (List.flatMap E_api_Node ([r7.1]:List (S_api_Node))) (List.length ([r7.1]:List (S_api_Node))) (rs13 (b5.f_Kids ++ ([r7.1]:List (S_api_Node)))) ∧ GoodR (rs13 (b5.f_Kids ++ ([r7.1]:List (S_api_Node)))))]) (by kernel_rfl) (by kernel_rfl) (AllP.cons (⟨(hR_block_reader_block__o0_s2 (S_block_reader.mk (List.set b1000000.f_l (Int.toNat b1000000.f_at) r6) b1000000.f_at b1000000.f_no b1000000.f_e) _ hr7),by kernel_rfl,by kernel_rfl⟩) (AllP.cons (mkOb (by kernel_rfl) rfl (by kernel_rfl) (good_E_api_Node _)) (AllP.cons hc8 (AllP.cons (appOb rfl rfl (good_E_api_Node _)) AllP.nil)))) ?_
      refine To.blockN (To.blockN (nt [0,1,4,5] [4,5,51,504000,1000000] [(51,4303)] [0,1,4,5] [4,5,4303,504000,1000000] [(0,.own 1000000 0),(1,vi v1),(4,.own 4 0),(5,.own 5 0)] [(4,26,qc9 b4),(5,26,qc14 4303 b5),(4303,26,[rc12 (b5.f_Kids ++ ([r7.1]:List (S_api_Node)))]),(504000,50,[rc5 r7.2.f_l]),(1000000,46,qc10 504000 r7.2)] (To.again ?_)))
      exact ih b4 (S_api_Node.mk b5.f_Kind b5.f_Text b5.f_Keys (b5.f_Kids ++ ([r7.1]:List (S_api_Node)))) r7.2 _ h hQ
  ·refine Wp.exit (To.thenX (To.thenX (kt [4,5] [4,5,4303,504000,1000000] [(4,.own 4 0),(5,.own 5 0)] [(4,26,qc9 b4),(5,26,qc14 4303 b5),(4303,26,[rc12 b5.f_Kids]),(ex33 b1000000),(ex34 b1000000)] ?_)))
   cases h
   exact hQ
def block_reader_row__o0_s2 (R_block_reader_block__o0_s2:S_block_reader → Option (S_api_Node × S_block_reader)) (n:Nat) (a1:Int) (h0:S_block_reader):Option (S_api_Node × S_block_reader) :=
 (block_reader_row__o0_s2_l1 R_block_reader_block__o0_s2 n a1 n (S_api_Node.mk 0 [] [] []) (S_api_Node.mk 2 [] [] []) h0).bind fun o1 =>
 (Sum.elim (fun o1=>some (o1.2.1,o1.2.2)) (fun o1=>some (o1.1,o1.2))) o1
abbrev rc15 (l:List (S_api_Node)):D:=.rowc true (α:=S_api_Node) zx7 E_api_Node l
abbrev qc16 (x:S_api_Node):List D:=[vi x.f_Kind,.str x.f_Text,ls x.f_Keys,rs13 x.f_Kids]
theorem ok_block_reader_row__o0_s2 (R_block_reader_block__o0_s2:S_block_reader → Option (S_api_Node × S_block_reader)) (hR_block_reader_block__o0_s2:hR11 R_block_reader_block__o0_s2) (n:Nat) (a1:Int) (h0:S_block_reader) (r:S_api_Node × S_block_reader) (h:block_reader_row__o0_s2 R_block_reader_block__o0_s2 n a1 h0 = some r):CallsB Tryz.prog 55 [.own 1000000 0,vi a1] [(1000000,46,qc10 1010000 h0),(1010000,50,[rc5 h0.f_l])] (.agg (qc9 r.1)) [(200,50,[rc5 r.2.f_l]),(1000000,46,qc10 200 r.2)]:=by
 unfold block_reader_row__o0_s2 at h
 refine bo Tryz.f55 rfl fun F0 w0=>?_
 refine nw [0,1] [1000000,1010000] [(1010000,504000)] [0,1] [504000,1000000] [(0,.own 1000000 0),(1,vi a1)] [(504000,50,[rc5 h0.f_l]),(1000000,46,qc10 504000 h0)] (Wp.seq (rg [0,1,4] [4,504000,1000000] [(0,.own 1000000 0),(1,vi a1),(4,.own 4 0)] [(4,26,[vi 0,.str [],.val (.slice none 0 0),.val (.slice none 0 0)]),(504000,50,[rc5 h0.f_l]),(1000000,46,qc10 504000 h0)] (To.thenN (Wp.scope (Wp.seq (rg [0,1,4,5] [4,5,504000,1000000] [(0,.own 1000000 0),(1,vi a1),(4,.own 4 0),(5,.own 5 0)] [(4,26,[vi 0,.str [],.val (.slice none 0 0),.val (.slice none 0 0)]),(5,26,[vi 2,.str [],.val (.slice none 0 0),.val (.slice none 0 0)]),(504000,50,[rc5 h0.f_l]),(1000000,46,qc10 504000 h0)] (To.thenN (Wp.seq (Wp.label (To.thenN (Wp.seq (Wp.block ?_))))))))))))
 obtain ⟨o1,ho1,h⟩:=bind_of h
 refine kw [0,1,4,5] [4,5,504000,1000000] [(0,.own 1000000 0),(1,vi a1),(4,.own 4 0),(5,.own 5 0)] [(4,26,[vi 0,.str [],.val (.slice none 0 0),.val (.slice none 0 0)]),(5,26,[vi 2,.str [],.val (.slice none 0 0),.val (.slice none 0 0)]),(504000,50,[rc5 h0.f_l]),(1000000,46,qc10 504000 h0)] (Wp.pre (St.vacantB 5 3 4303 26 (good_E_api_Node _) (by decide) (by kernel_rfl) (L':=[(4,26,[vi 0,.str [],.val (.slice none 0 0),.val (.slice none 0 0)]),(5,26,[vi 2,.str [],.val (.slice none 0 0),.row 4303]),(504000,50,[rc5 h0.f_l]),(1000000,46,qc10 504000 h0)]) (by kernel_rfl)) (kw [0,1,4,5] [4,5,4303,504000,1000000] [(0,.own 1000000 0),(1,vi a1),(4,.own 4 0),(5,.own 5 0)] [(4,26,[vi 0,.str [],.val (.slice none 0 0),.val (.slice none 0 0)]),(5,26,[vi 2,.str [],.val (.slice none 0 0),.row 4303]),(4303,26,[rc12 []]),(504000,50,[rc5 h0.f_l]),(1000000,46,qc10 504000 h0)] (Wp.weak (K':=[(0,.own 1000000 0),(1,vi a1),(4,.own 4 0),(5,.own 5 0)]) (L':=[(4,26,[vi 0,.str [],ls [],tn8 []]),(5,26,[vi 2,.str [],ls [],.row 4303]),(4303,26,[rc12 []]),(504000,50,[rc5 h0.f_l]),(1000000,46,qc10 504000 h0)]) (.cons (.refl _) (.cons (.refl _) (.cons (.refl _) (.cons (.refl _) .nil)))) (.cons (.cons (.refl _) (.cons (.refl _) (.cons (.zero _ _) (.cons (.zeroT _ _ _) .nil)))) (.cons (.cons (.refl _) (.cons (.refl _) (.cons (.zero _ _) (.cons (.refl _) .nil)))) (.cons (.cons (.refl _) .nil) (.cons (.cons (.refl _) .nil) (.cons (.cons (.refl _) (.cons (.refl _) (.cons (.refl _) (.cons (.refl _) .nil)))) .nil))))) (Wp.loopL (ok_block_reader_row__o0_s2_l1 R_block_reader_block__o0_s2 hR_block_reader_block__o0_s2 n a1 n zx7 (S_api_Node.mk 2 [] [] []) h0 o1 ho1 ?_)))))
 rcases o1 with o1 | o1
 ·replace h:=sum_l h
  refine To.blockX (To.thenN (Wp.seq (rg [4] [4,4303,504000,1000000] [(4,.own 4 0)] [(4,26,qc14 4303 o1.2.1),(4303,26,[rc12 o1.2.1.f_Kids]),(504000,50,[rc5 o1.2.2.f_l]),(1000000,46,qc10 504000 o1.2.2)] (To.thenN (Wp.ret (To.scope (.inr (.inl rfl)) (kt [4] [4,4303,504000,1000000] [(4,.own 4 0)] [(4,26,qc14 4303 o1.2.1),(4303,26,[rc12 o1.2.1.f_Kids]),(504000,50,[rc5 o1.2.2.f_l]),(1000000,46,qc10 504000 o1.2.2)] (To.pre (St.settle (ks:=[4303]) (kk:=[4]) (kl:=[4,4303,504000,1000000]) (K':=[(4,.own 4 0)]) (L':=[(4,26,qc14 4303 o1.2.1),(4303,26,[rc15 o1.2.1.f_Kids]),(504000,50,[rc5 o1.2.2.f_l]),(1000000,46,qc10 504000 o1.2.2)]) (by kernel_rfl)) (To.pre (St.sealB [4] (L':=[(4,26,qc16 o1.2.1),(4303,26,[rc15 o1.2.1.f_Kids]),(504000,50,[rc5 o1.2.2.f_l]),(1000000,46,qc10 504000 o1.2.2)]) (by kernel_rfl)) (To.weak (K':=[(4,.own 4 0)]) (L':=[(4,26,qc9 o1.2.1),(4303,26,[rc15 o1.2.1.f_Kids]),(504000,50,[rc5 o1.2.2.f_l]),(1000000,46,qc10 504000 o1.2.2)]) (.cons (.refl _) .nil) (.cons (.cons (.refl _) (.cons (.refl _) (.cons (.refl _) (.cons (.close _ _ _ _) .nil)))) (.cons (.cons (.refl _) .nil) (.cons (.cons (.refl _) .nil) (.cons (.cons (.refl _) (.cons (.refl _) (.cons (.refl _) (.cons (.refl _) .nil)))) .nil)))) ?_))))))))))
  refine nt [4] [4,504000,1000000] [(504000,200)] [4] [4,200,1000000] [(4,.own 4 0)] [(4,26,qc9 o1.2.1),(200,50,[rc5 o1.2.2.f_l]),(1000000,46,qc10 200 o1.2.2)] ?_
  cases h
  exact To.doneB hΓ [200,1000000] (by kernel_rfl) (by kernel_rfl)
 ·replace h:=sum_r h
  refine To.blockR (To.thenR (To.scope (.inr (.inl rfl)) (nt [4] [4,504000,1000000] [(504000,200)] [4] [4,200,1000000] [(4,.own 4 0)] [(4,26,qc9 o1.1),(200,50,[rc5 o1.2.f_l]),(1000000,46,qc10 200 o1.2)] ?_)))
  cases h
  exact To.doneB hΓ [200,1000000] (by kernel_rfl) (by kernel_rfl)
theorem good_E_string (l:List (List UInt8)):GoodR (.recs [] E_string l):=⟨Nat.le_of_ble_eq_true (by kernel_rfl),fun _=>⟨rfl,rfl⟩⟩
def slices_Index_string_string_l1 (n:Nat) (v0:List (List UInt8)) (v1:List UInt8) (v7:Int):Nat → Int → Option (Sum (Unit) (Int))
 | 0,_=>none
 | k + 1,v8=>if (decide (v8 < v7)) = true then (if (decide (0 ≤ v8 ∧ v8 < (List.length v0:Int))) = true then (if (v1 == ((v0)[Int.toNat v8]?.getD [])) = true then (some (.inr v8))
 else (slices_Index_string_string_l1 n v0 v1 v7 k (IntKind.wrap .i64 (v8 + 1)))) else none)
 else (some (.inl ()))
abbrev ex44 (x0:Int):Nat × D:=(8,vi (IntKind.wrap .i64 (x0 + 1)))
abbrev ex45 (x0:Int) (x1:List (List UInt8)):=(0 ≤ x0 ∧ x0 < (List.length x1:Int))
theorem ok_slices_Index_string_string_l1 (n:Nat) (v0:List (List UInt8)) (v1:List UInt8) (v7:Int) {F0:Fz} {w0:Pt Tryz.prog} {Q:Exit → Act → World → Prop} (k:Nat):∀ (v8:Int) (o:Sum (Unit) (Int)),slices_Index_string_string_l1 n v0 v1 v7 k v8 = some o → (Sum.elim (fun s=>To 19 F0 w0 [] [] (.exit 0) Q) (fun s=>To 19 F0 w0 [(4,vi s)] [] .ret Q)) o → WL Tryz.prog 19 F0 w0 [(0,ls v0),(1,.str v1),(7,vi v7),(8,vi v8)] [] (cI (cI (cB (cA (cB (cF Tryz.f125)))))) Q:=by
 induction k with
 | zero=>intro v8 o h; cases h
 | succ k ih =>
  intro v8 o h hQ
  rw [slices_Index_string_string_l1] at h
  refine WL.round (Wp.seq (rg [0,1,7,8,9] [] [(0,ls v0),(1,.str v1),(7,vi v7),(8,vi v8),(9,vb (decide (v8 < v7)))] [] (To.thenN (Wp.seq (cn h (fun h=>?_) (fun h=>?_))))))
  ·refine Wp.skip (To.thenN (Wp.seq (Wp.block (Wp.seq (rg [0,1,5,7,8] [] [(0,ls v0),(1,.str v1),(5,vi v8),(7,vi v7),(8,vi v8)] [] (To.thenN (Wp.seq ?_)))))))
   obtain ⟨hc1,h⟩:=chk_of h
   refine r0 [0,1,5,7,8,16] [] [(0,ls v0),(1,.str v1),(5,vi v8),(7,vi v7),(8,vi v8),(16,vb (v1 == ((v0)[Int.toNat v8]?.getD [])))] [] (AllP.cons hc1 AllP.nil) (To.thenN (cn h (fun h=>?_) (fun h=>?_)))
   ·refine Wp.seq (rg [4] [] [(4,vi v8)] [] (To.thenN (Wp.ret (To.blockR (To.thenR (To.thenR ?_))))))
    cases h
    exact hQ
   ·refine Wp.skip (To.blockN (To.thenN (rg [0,1,7,8] [] [(0,ls v0),(1,.str v1),(7,vi v7),(ex44 v8)] [] (kt [0,1,7,8] [] [(0,ls v0),(1,.str v1),(7,vi v7),(ex44 v8)] [] (To.again ?_)))))
    exact ih (IntKind.wrap .i64 (v8 + 1)) _ h hQ
  ·refine Wp.exit (To.thenX (To.thenX (kt [] [] [] [] ?_)))
   cases h
   exact hQ
def slices_Index_string_string (n:Nat) (a0:List (List UInt8)) (a1:List UInt8):Option (Int) :=
 (slices_Index_string_string_l1 n a0 a1 (List.length a0:Int) n 0).bind fun o1 =>
 (Sum.elim (fun o1=>some (-1)) (fun o1=>some o1)) o1
theorem ok_slices_Index_string_string (n:Nat) (a0:List (List UInt8)) (a1:List UInt8) (r:Int) (h:slices_Index_string_string n a0 a1 = some r):CallsX Tryz.prog 125 [ls a0,.str a1] (vi r):=by
 unfold slices_Index_string_string at h
 refine xo Tryz.f125 rfl fun F0 w0 _=>?_
 refine Wp.seq (rg [0,1] [] [(0,ls a0),(1,.str a1)] [] (To.thenN (Wp.seq (Wp.seq (rg [0,1,7,8] [] [(0,ls a0),(1,.str a1),(7,vi (List.length a0:Int)),(8,vi 0)] [] (To.thenN (Wp.block ?_)))))))
 obtain ⟨o1,ho1,h⟩:=bind_of h
 refine kw [0,1,7,8] [] [(0,ls a0),(1,.str a1),(7,vi (List.length a0:Int)),(8,vi 0)] [] (Wp.loopL (ok_slices_Index_string_string_l1 n a0 a1 (List.length a0:Int) n 0 o1 ho1 ?_))
 rcases o1 with o1 | o1
 ·replace h:=sum_l h
  refine To.blockX (To.thenN (Wp.seq (rg [4] [] [(4,vi (-1))] [] (To.thenN (Wp.ret ?_)))))
  cases h
  exact To.done hΓ (by kernel_rfl)
 ·replace h:=sum_r h
  refine To.blockR (To.thenR ?_)
  cases h
  exact To.done hΓ (by kernel_rfl)
def slices_Contains_string_string (n:Nat) (a0:List (List UInt8)) (a1:List UInt8):Option (Bool) :=
 (slices_Index_string_string n a0 a1).bind fun r1 =>
 some (decide (r1 ≥ 0))
theorem ok_slices_Contains_string_string (n:Nat) (a0:List (List UInt8)) (a1:List UInt8) (r:Bool) (h:slices_Contains_string_string n a0 a1 = some r):CallsX Tryz.prog 110 [ls a0,.str a1] (vb r):=by
 unfold slices_Contains_string_string at h
 refine xo Tryz.f110 rfl fun F0 w0 _=>?_
 refine Wp.seq (rg [0,1] [] [(0,ls a0),(1,.str a1)] [] (To.thenN (Wp.seq ?_)))
 obtain ⟨r1,hr1,h⟩:=bind_of h
 refine rc [] 2 [4] [] [(4,vb (decide (r1 ≥ 0)))] [] (ok_slices_Index_string_string n a0 a1 _ hr1) (To.thenN (Wp.ret ?_))
 cases h
 exact To.done hΓ (by kernel_rfl)
def name_In (n:Nat) (a0:List (List UInt8)) (a1:List UInt8):Option (Bool) :=
 (slices_Contains_string_string n a0 a1).bind fun r1 =>
 some r1
theorem ok_name_In (n:Nat) (a0:List (List UInt8)) (a1:List UInt8) (r:Bool) (h:name_In n a0 a1 = some r):CallsX Tryz.prog 88 [ls a0,.str a1] (vb r):=by
 unfold name_In at h
 refine xo Tryz.f88 rfl fun F0 w0 _=>?_
 refine Wp.seq (rg [0,1] [] [(0,ls a0),(1,.str a1)] [] (To.thenN (Wp.seq ?_)))
 obtain ⟨r1,hr1,h⟩:=bind_of h
 refine rc [] 2 [4] [] [(4,vb r1)] [] (ok_slices_Contains_string_string n a0 a1 _ hr1) (To.thenN (Wp.ret ?_))
 cases h
 exact To.done hΓ (by kernel_rfl)
def node_Text (a0:List UInt8):S_api_Node :=
 (S_api_Node.mk 1 a0 [] [])
theorem ok_node_Text (a0:List UInt8) (r:S_api_Node) (h:node_Text a0 = r):CallsX Tryz.prog 111 [.str a0] (.agg (qc9 r)):=by
 unfold node_Text at h
 refine xo Tryz.f111 rfl fun F0 w0 _=>?_
 refine Wp.seq (rg [0,2] [2] [(0,.str a0),(2,.own 2 0)] [(2,26,[vi 0,.str [],.val (.slice none 0 0),.val (.slice none 0 0)])] (To.thenN (Wp.seq (rg [2] [2] [(2,.own 2 0)] [(2,26,[vi 1,.str a0,.val (.slice none 0 0),.val (.slice none 0 0)])] (To.thenN (Wp.ret (To.weak (K':=[(2,.own 2 0)]) (L':=[(2,26,[vi 1,.str a0,ls [],tn8 []])]) (.cons (.refl _) .nil) (.cons (.cons (.refl _) (.cons (.refl _) (.cons (.zero _ _) (.cons (.zeroT _ _ _) .nil)))) .nil) ?_)))))))
 cases h
 exact To.done hΓ (by kernel_rfl)
def quote_Row_l1 (n:Nat) (v0:List UInt8) (v5:Int):Nat → Int → Option (Sum (Unit) (Bool))
 | 0,_=>none
 | k + 1,v6=>if (decide (v6 < v5)) = true then (if (decide (0 ≤ v6 ∧ v6 < (List.length v0:Int))) = true then (lett ((decide ((Lib.indexByte ([44,91,93,123,125]:List UInt8) (Int.toNat (((v0)[Int.toNat v6]?.getD 0).toNat:Int)).toUInt8) ≥ 0)):Bool) fun x1 =>
 if x1 = true then (some (.inr false))
 else (quote_Row_l1 n v0 v5 k (IntKind.wrap .i64 (v6 + 1)))) else none)
 else (some (.inl ()))
abbrev ex87 (x0:List UInt8) (x1:Int):=(Lib.indexByte ([44,91,93,123,125]:List UInt8) (Int.toNat (ex6 x0 x1)).toUInt8)
theorem ok_quote_Row_l1 (n:Nat) (v0:List UInt8) (v5:Int) {F0:Fz} {w0:Pt Tryz.prog} {Q:Exit → Act → World → Prop} (k:Nat):∀ (v6:Int) (o:Sum (Unit) (Bool)),quote_Row_l1 n v0 v5 k v6 = some o → (Sum.elim (fun s=>To 17 F0 w0 [(0,.str v0)] [] (.exit 0) Q) (fun s=>To 17 F0 w0 [(2,vb s)] [] .ret Q)) o → WL Tryz.prog 17 F0 w0 [(0,.str v0),(5,vi v5),(6,vi v6)] [] (cI (cI (cB (cA (cB (cF Tryz.f83)))))) Q:=by
 induction k with
 | zero=>intro v6 o h; cases h
 | succ k ih =>
  intro v6 o h hQ
  rw [quote_Row_l1] at h
  refine WL.round (Wp.seq (rg [0,5,6,7] [] [(0,.str v0),(5,vi v5),(6,vi v6),(7,vb (decide (v6 < v5)))] [] (To.thenN (Wp.seq (cn h (fun h=>?_) (fun h=>?_))))))
  ·refine Wp.skip (To.thenN (Wp.seq (Wp.block (Wp.seq (rg [0,3,5,6] [] [(0,.str v0),(3,vi v6),(5,vi v5),(6,vi v6)] [] (To.thenN (Wp.seq ?_)))))))
   obtain ⟨hc2,h⟩:=chk_of h
   obtain ⟨x1,hx1,h⟩:=lett_of h
   refine rr [] [(3,vi (ex87 v0 v6))] [] [0,5,6,13] [] [(0,.str v0),(5,vi v5),(6,vi v6),(13,vb (decide ((ex87 v0 v6) ≥ 0)))] [] [_,(true = true → CX Tryz.prog 66 [.str [44,91,93,123,125],.val (.int .u8 (ex6 v0 v6))] (vi (ex87 v0 v6)))] (AllP.cons hc2 (AllP.cons (fun _=>cx (Sh.indexByte66)) AllP.nil)) (To.eq (K':=[(0,.str v0),(5,vi v5),(6,vi v6),(13,vb x1)]) (L':=[]) (by cases hx1; rfl) (by cases hx1; rfl) (To.thenN (cn h (fun h=>?_) (fun h=>?_))))
   ·refine Wp.seq (rg [2] [] [(2,vb false)] [] (To.thenN (Wp.ret (To.blockR (To.thenR (To.thenR ?_))))))
    cases h
    exact hQ
   ·refine Wp.skip (To.blockN (To.thenN (rg [0,5,6] [] [(0,.str v0),(5,vi v5),(ex32 v6)] [] (kt [0,5,6] [] [(0,.str v0),(5,vi v5),(ex32 v6)] [] (To.again ?_)))))
    exact ih (IntKind.wrap .i64 (v6 + 1)) _ h hQ
  ·refine Wp.exit (To.thenX (To.thenX (kt [0] [] [(0,.str v0)] [] ?_)))
   cases h
   exact hQ
def quote_Row (n:Nat) (a0:List UInt8):Option (Bool) :=
 (quote_Row_l1 n a0 (List.length a0:Int) n 0).bind fun o1 =>
 (Sum.elim (fun o1=>(quote_Plain n a0).bind fun r2 =>
 some r2) (fun o1=>some o1)) o1
theorem ok_quote_Row (n:Nat) (a0:List UInt8) (r:Bool) (h:quote_Row n a0 = some r):CallsX Tryz.prog 83 [.str a0] (vb r):=by
 unfold quote_Row at h
 refine xo Tryz.f83 rfl fun F0 w0 _=>?_
 refine Wp.seq (rg [0] [] [(0,.str a0)] [] (To.thenN (Wp.seq (Wp.seq (rg [0,5,6] [] [(0,.str a0),(5,vi (List.length a0:Int)),(6,vi 0)] [] (To.thenN (Wp.block ?_)))))))
 obtain ⟨o1,ho1,h⟩:=bind_of h
 refine kw [0,5,6] [] [(0,.str a0),(5,vi (List.length a0:Int)),(6,vi 0)] [] (Wp.loopL (ok_quote_Row_l1 n a0 (List.length a0:Int) n 0 o1 ho1 ?_))
 rcases o1 with o1 | o1
 ·replace h:=sum_l h
  refine To.blockX (To.thenN (Wp.seq ?_))
  obtain ⟨r2,hr2,h⟩:=bind_of h
  refine rc [] 1 [2] [] [(2,vb r2)] [] (ok_quote_Plain n a0 _ hr2) (To.thenN (Wp.ret ?_))
  cases h
  exact To.done hΓ (by kernel_rfl)
 ·replace h:=sum_r h
  refine To.blockR (To.thenR ?_)
  cases h
  exact To.done hΓ (by kernel_rfl)
def flow_Scalar (n:Nat) (a0:List UInt8) (a1:Bool):Option (S_api_Node × Int) :=
 if (bif (bif (a0 == []) then true else (a0 == [126])) then true else (a0 == [110,117,108,108])) = true then (some ((S_api_Node.mk 0 [] [] []),0))
 else (if (decide (0 ≤ (0:Int) ∧ (0:Int) < (List.length a0:Int))) = true then (if ((!(((((a0)[Int.toNat 0]?.getD 0).toNat:Int) == 34) == false) || decide (0 ≤ (0:Int) ∧ (0:Int) < (List.length a0:Int)))) = true then (if (bif ((((a0)[Int.toNat 0]?.getD 0).toNat:Int) == 34) then true else ((((a0)[Int.toNat 0]?.getD 0).toNat:Int) == 39)) = true then ((quote_Scan n a0 0).bind fun r1 =>
 if (bif (r1.2.2 != 0) then true else (r1.2.1 != (List.length a0:Int))) = true then (some ((S_api_Node.mk 0 [] [] []),3))
 else (lett (node_Text r1.1) fun r2 =>
 some (r2,0)))
 else (((if (a1 == true) = true then quote_Row n a0 else some false)).bind fun r3 =>
 ((if (((!a1) == true) && ((bif a1 then r3 else false) == false)) = true then quote_Plain n a0 else some false)).bind fun r4 =>
 if (bif (bif a1 then r3 else false) then true else (bif (!a1) then r4 else false)) = true then (lett (node_Text a0) fun r5 =>
 some (r5,0))
 else (some ((S_api_Node.mk 0 [] [] []),3)))) else none) else none)
theorem ok_flow_Scalar (n:Nat) (a0:List UInt8) (a1:Bool) (r:S_api_Node × Int) (h:flow_Scalar n a0 a1 = some r):CallsX Tryz.prog 89 [.str a0,vb a1] (.tup [.agg (qc9 r.1),vi r.2]):=by
 unfold flow_Scalar at h
 refine xo Tryz.f89 rfl fun F0 w0 _=>?_
 refine Wp.seq (rg [0,1,4] [4] [(0,.str a0),(1,vb a1),(4,.own 4 0)] [(4,26,[vi 0,.str [],.val (.slice none 0 0),.val (.slice none 0 0)])] (To.thenN (Wp.seq (Wp.block (Wp.seq (rg [0,1,4,9] [4] [(0,.str a0),(1,vb a1),(4,.own 4 0),(9,vb (ex28 a0))] [(4,26,[vi 0,.str [],.val (.slice none 0 0),.val (.slice none 0 0)])] (To.thenN (cn h (fun h=>?_) (fun h=>?_)))))))))
 ·refine Wp.seq (rg [4,5] [4] [(4,.own 4 0),(5,vi 0)] [(4,26,[vi 0,.str [],.val (.slice none 0 0),.val (.slice none 0 0)])] (To.thenN (Wp.ret (To.blockR (To.thenR (To.weak (K':=[(4,.own 4 0),(5,vi 0)]) (L':=[(4,26,[vi 0,.str [],ls [],tn8 []])]) (.cons (.refl _) (.cons (.refl _) .nil)) (.cons (.cons (.refl _) (.cons (.refl _) (.cons (.zero _ _) (.cons (.zeroT _ _ _) .nil)))) .nil) ?_))))))
  cases h
  exact To.done hΓ (by kernel_rfl)
 ·refine Wp.seq ?_
  obtain ⟨hc6,h⟩:=chk_of h
  obtain ⟨hc7,h⟩:=chk_of h
  refine r0 [0,1,4,21] [4] [(0,.str a0),(1,vb a1),(4,.own 4 0),(21,vb (ex85 a0))] [(4,26,[vi 0,.str [],.val (.slice none 0 0),.val (.slice none 0 0)])] (AllP.cons hc6 (AllP.cons hc7 AllP.nil)) (To.thenN (cn h (fun h=>?_) (fun h=>?_)))
  ·refine Wp.seq ?_
   obtain ⟨r1,hr1,h⟩:=bind_of h
   refine rc [] 1 [0,4,6,7,8] [4] [(0,.str a0),(4,.own 4 0),(6,.str r1.1),(7,vi r1.2.1),(8,vi r1.2.2)] [(4,26,[vi 0,.str [],.val (.slice none 0 0),.val (.slice none 0 0)])] (ok_quote_Scan n a0 0 _ hr1) (To.thenN (Wp.seq (Wp.seq (rg [4,6,43] [4] [(4,.own 4 0),(6,.str r1.1),(43,vb (bif (r1.2.2 != 0) then true else (r1.2.1 != (List.length a0:Int))))] [(4,26,[vi 0,.str [],.val (.slice none 0 0),.val (.slice none 0 0)])] (To.thenN (cn h (fun h=>?_) (fun h=>?_)))))))
   ·refine Wp.seq (rg [4,5] [4] [(4,.own 4 0),(5,vi 3)] [(4,26,[vi 0,.str [],.val (.slice none 0 0),.val (.slice none 0 0)])] (To.thenN (Wp.ret (To.thenR (To.blockR (To.thenR (To.weak (K':=[(4,.own 4 0),(5,vi 3)]) (L':=[(4,26,[vi 0,.str [],ls [],tn8 []])]) (.cons (.refl _) (.cons (.refl _) .nil)) (.cons (.cons (.refl _) (.cons (.refl _) (.cons (.zero _ _) (.cons (.zeroT _ _ _) .nil)))) .nil) ?_)))))))
    cases h
    exact To.done hΓ (by kernel_rfl)
   ·refine Wp.skip (To.thenN (Wp.seq ?_))
    obtain ⟨r2,hr2,h⟩:=lett_of h
    refine rc [] 1 [4,5] [4] [(4,.own 4 0),(5,vi 0)] [(4,26,qc9 r2)] (ok_node_Text r1.1 _ hr2) (To.thenN (Wp.ret (To.blockR (To.thenR ?_))))
    cases h
    exact To.done hΓ (by kernel_rfl)
  ·refine Wp.seq ?_
   obtain ⟨r3,hr3,h⟩:=bind_of h
   obtain ⟨r4,hr4,h⟩:=bind_of h
   refine rr [] [(3,vb r3),(10,vb r4)] [] [0,4,47] [4] [(0,.str a0),(4,.own 4 0),(47,vb (bif (bif a1 then r3 else false) then true else (bif (!a1) then r4 else false)))] [(4,26,[vi 0,.str [],.val (.slice none 0 0),.val (.slice none 0 0)])] [((a1 == true) = true → CX Tryz.prog 83 [.str a0] (vb r3)),((((!a1) == true) && ((bif a1 then r3 else false) == false)) = true → CX Tryz.prog 33 [.str a0] (vb r4))] (AllP.cons (fun hg=>cx (ok_quote_Row n a0 _ (if_t hg hr3))) (AllP.cons (fun hg=>cx (ok_quote_Plain n a0 _ (if_t hg hr4))) AllP.nil)) (To.thenN (cn h (fun h=>?_) (fun h=>?_)))
   ·refine Wp.seq ?_
    obtain ⟨r5,hr5,h⟩:=lett_of h
    refine rc [] 1 [4,5] [4] [(4,.own 4 0),(5,vi 0)] [(4,26,qc9 r5)] (ok_node_Text a0 _ hr5) (To.thenN (Wp.ret (To.blockR (To.thenR ?_))))
    cases h
    exact To.done hΓ (by kernel_rfl)
   ·refine Wp.skip (To.blockN (To.thenN (Wp.seq (rg [4,5] [4] [(4,.own 4 0),(5,vi 3)] [(4,26,[vi 0,.str [],.val (.slice none 0 0),.val (.slice none 0 0)])] (To.thenN (Wp.ret (To.weak (K':=[(4,.own 4 0),(5,vi 3)]) (L':=[(4,26,[vi 0,.str [],ls [],tn8 []])]) (.cons (.refl _) (.cons (.refl _) .nil)) (.cons (.cons (.refl _) (.cons (.refl _) (.cons (.zero _ _) (.cons (.zeroT _ _ _) .nil)))) .nil) ?_)))))))
    cases h
    exact To.done hΓ (by kernel_rfl)
structure S_flow_reader where
 f_s:List UInt8
 f_at:Int
 f_bad:Bool
def flow_reader_next__o0_l1 (n:Nat):Nat → S_flow_reader → Option (S_flow_reader)
 | 0,_=>none
 | k + 1,b1000000=>if ((!((decide (b1000000.f_at < (List.length b1000000.f_s:Int))) == true) || decide (0 ≤ b1000000.f_at ∧ b1000000.f_at < (List.length b1000000.f_s:Int)))) = true then (lett ((bif (decide (b1000000.f_at < (List.length b1000000.f_s:Int))) then ((((b1000000.f_s)[Int.toNat b1000000.f_at]?.getD 0).toNat:Int) == 32) else false):Bool) fun x1 =>
 if x1 = true then (flow_reader_next__o0_l1 n k (S_flow_reader.mk b1000000.f_s (IntKind.wrap .i64 (b1000000.f_at + 1)) b1000000.f_bad))
 else some b1000000) else none
abbrev qc17 (x:S_flow_reader):List D:=[.str x.f_s,vi x.f_at,vb x.f_bad]
abbrev ex46 (x0:S_flow_reader):Nat × Nat × List D:=(1000000,137,[.str x0.f_s,vi (IntKind.wrap .i64 (x0.f_at + 1)),vb x0.f_bad])
abbrev ex47 (x0:S_flow_reader):=(((x0.f_s)[Int.toNat x0.f_at]?.getD 0).toNat:Int)
abbrev ex48 (x0:S_flow_reader):=(S_flow_reader.mk x0.f_s (IntKind.wrap .i64 (x0.f_at + 1)) x0.f_bad)
abbrev ex49 (x0:S_flow_reader):=(List.length x0.f_s:Int)
theorem ok_flow_reader_next__o0_l1 (n:Nat) {F0:Fz} {w0:Pt Tryz.prog} {Q:Exit → Act → World → Prop} (k:Nat):∀ (b1000000:S_flow_reader) (o:S_flow_reader),flow_reader_next__o0_l1 n k b1000000 = some o → To 51 F0 w0 [(0,.own 1000000 0)] [(1000000,137,qc17 o)] (.exit 0) Q → WL Tryz.prog 51 F0 w0 [(0,.own 1000000 0)] [(1000000,137,qc17 b1000000)] (cI (cI (cA (cB (cF Tryz.f113))))) Q:=by
 induction k with
 | zero=>intro b1000000 o h; cases h
 | succ k ih =>
  intro b1000000 o h hQ
  rw [flow_reader_next__o0_l1] at h
  refine WL.round (Wp.seq (Wp.seq ?_))
  obtain ⟨hc2,h⟩:=chk_of h
  obtain ⟨x1,hx1,h⟩:=lett_of h
  refine Wp.regionD hm hΓ [] [0,24] [1000000] (K':=[(0,.own 1000000 0),(24,vb (bif (decide (b1000000.f_at < (ex49 b1000000))) then ((ex47 b1000000) == 32) else false))]) (L':=[(1000000,137,qc17 b1000000)]) (ob:=[(!((decide (b1000000.f_at < (ex49 b1000000))) == true) || decide (0 ≤ b1000000.f_at ∧ b1000000.f_at < (ex49 b1000000))) = true]) (by kernel_rfl) (AllP.cons hc2 AllP.nil) (To.eq (K':=[(0,.own 1000000 0),(24,vb x1)]) (L':=[(1000000,137,qc17 b1000000)]) (by cases hx1; rfl) (by cases hx1; rfl) (To.thenN (cn h (fun h=>?_) (fun h=>?_))))
  ·refine Wp.skip (To.thenN (Wp.block (rg [0] [1000000] [(0,.own 1000000 0)] [(ex46 b1000000)] (To.blockN (To.again ?_)))))
   exact ih (ex48 b1000000) _ h hQ
  ·refine Wp.exit (To.thenX (To.thenX (kt [0] [1000000] [(0,.own 1000000 0)] [(1000000,137,qc17 b1000000)] ?_)))
   cases h
   exact hQ
def flow_reader_next__o0 (n:Nat) (h0:S_flow_reader):Option (Int × S_flow_reader) :=
 (flow_reader_next__o0_l1 n n h0).bind fun o1 =>
 if (o1.f_at == (List.length o1.f_s:Int)) = true then (some (0,o1))
 else (if (decide (0 ≤ o1.f_at ∧ o1.f_at < (List.length o1.f_s:Int))) = true then (some ((((o1.f_s)[Int.toNat o1.f_at]?.getD 0).toNat:Int),o1)) else none)
theorem ok_flow_reader_next__o0 (n:Nat) (h0:S_flow_reader) (r:Int × S_flow_reader) (h:flow_reader_next__o0 n h0 = some r):CallsB Tryz.prog 113 [.own 1000000 0] [(1000000,137,qc17 h0)] (.val (.int .u8 r.1)) [(1000000,137,qc17 r.2)]:=by
 unfold flow_reader_next__o0 at h
 refine bo Tryz.f113 rfl fun F0 w0=>?_
 refine Wp.seq (rg [0] [1000000] [(0,.own 1000000 0)] [(1000000,137,qc17 h0)] (To.thenN (Wp.seq (Wp.block ?_))))
 obtain ⟨o1,ho1,h⟩:=bind_of h
 refine kw [0] [1000000] [(0,.own 1000000 0)] [(1000000,137,qc17 h0)] (Wp.loopL (ok_flow_reader_next__o0_l1 n n h0 o1 ho1 (To.blockX (To.thenN (Wp.seq (Wp.seq (Wp.regionD hm hΓ [] [0,41] [1000000] (K':=[(0,.own 1000000 0),(41,vb (o1.f_at == (List.length o1.f_s:Int)))]) (L':=[(1000000,137,qc17 o1)]) (ob:=[]) (by kernel_rfl) AllP.nil (To.thenN (cn h (fun h=>?_) (fun h=>?_))))))))))
 ·refine Wp.seq (rg [2] [1000000] [(2,.val (.int .u8 0))] [(1000000,137,qc17 o1)] (To.thenN (Wp.ret (To.thenR ?_))))
  cases h
  exact To.doneB hΓ [1000000] (by kernel_rfl) (by kernel_rfl)
 ·refine Wp.skip (To.thenN (Wp.seq ?_))
  obtain ⟨hc2,h⟩:=chk_of h
  refine Wp.regionD hm hΓ [] [2] [1000000] (K':=[(2,.val (.int .u8 (((o1.f_s)[Int.toNat o1.f_at]?.getD 0).toNat:Int)))]) (L':=[(1000000,137,qc17 o1)]) (ob:=[(decide (0 ≤ o1.f_at ∧ o1.f_at < (List.length o1.f_s:Int))) = true]) (by kernel_rfl) (AllP.cons hc2 AllP.nil) (To.thenN (Wp.ret ?_))
  cases h
  exact To.doneB hΓ [1000000] (by kernel_rfl) (by kernel_rfl)
def flow_reader_take__o0 (n:Nat) (a1:Int) (h0:S_flow_reader):Option (Bool × S_flow_reader) :=
 (flow_reader_next__o0 n h0).bind fun r1 =>
 if (r1.1 != a1) = true then (some (false,r1.2))
 else (some (true,(S_flow_reader.mk r1.2.f_s (IntKind.wrap .i64 (r1.2.f_at + 1)) r1.2.f_bad)))
theorem ok_flow_reader_take__o0 (n:Nat) (a1:Int) (h0:S_flow_reader) (r:Bool × S_flow_reader) (h:flow_reader_take__o0 n a1 h0 = some r):CallsB Tryz.prog 137 [.own 1000000 0,.val (.int .u8 a1)] [(1000000,137,qc17 h0)] (vb r.1) [(1000000,137,qc17 r.2)]:=by
 unfold flow_reader_take__o0 at h
 refine bo Tryz.f137 rfl fun F0 w0=>?_
 refine Wp.seq (rg [0,1] [1000000] [(0,.own 1000000 0),(1,.val (.int .u8 a1))] [(1000000,137,qc17 h0)] (To.thenN (Wp.seq (Wp.seq ?_))))
 obtain ⟨r1,hr1,h⟩:=bind_of h
 refine rb [] 1 ⟨[(1000000,1000000)],[(1000000,1000000)],[.own 1000000 0],[(1000000,137,qc17 h0)],.val (.int .u8 r1.1),[(1000000,137,qc17 r1.2)]⟩ [0,8] [1000000] [(0,.own 1000000 0),(8,vb (r1.1 != a1))] [(1000000,137,qc17 r1.2)] ((ok_flow_reader_next__o0 n h0 _ hr1)) (To.thenN (cn h (fun h=>?_) (fun h=>?_)))
 ·refine Wp.seq (rg [4] [1000000] [(4,vb false)] [(1000000,137,qc17 r1.2)] (To.thenN (Wp.ret (To.thenR ?_))))
  cases h
  exact To.doneB hΓ [1000000] (by kernel_rfl) (by kernel_rfl)
 ·refine Wp.skip (To.thenN (Wp.seq (rg [] [1000000] [] [(1000000,137,[.str r1.2.f_s,vi (IntKind.wrap .i64 (r1.2.f_at + 1)),vb r1.2.f_bad])] (To.thenN (Wp.seq (rg [4] [1000000] [(4,vb true)] [(1000000,137,[.str r1.2.f_s,vi (IntKind.wrap .i64 (r1.2.f_at + 1)),vb r1.2.f_bad])] (To.thenN (Wp.ret ?_))))))))
  cases h
  exact To.doneB hΓ [1000000] (by kernel_rfl) (by kernel_rfl)
mutual
def flow_reader_seq__o0_g1_e (R_flow_reader_value__o0:S_flow_reader → Option (S_api_Node × Bool × S_flow_reader)) (n:Nat):Nat → S_api_Node → S_flow_reader → Option (S_api_Node × S_flow_reader)
 | 0,_,_=>none
 | k + 1,b2,b1000000=>(flow_reader_take__o0 n 93 (S_flow_reader.mk b1000000.f_s (IntKind.wrap .i64 (b1000000.f_at + 1)) b1000000.f_bad)).bind fun r1 =>
 if r1.1 = true then (some ((S_api_Node.mk 2 [] [] []),r1.2))
 else ((R_flow_reader_value__o0 r1.2).bind fun r2 =>
 if (bif r2.2.2.f_bad then true else (!r2.2.1)) = true then (some ((S_api_Node.mk 2 [] [] []),(S_flow_reader.mk r2.2.2.f_s r2.2.2.f_at (bif r2.2.2.f_bad then true else (!r2.2.1)))))
 else (if (decide ((List.length ([]:List (S_api_Node)) + List.length ([r2.1]:List (S_api_Node))) * (72 + 1) ≤ limit)) = true then ((flow_reader_take__o0 n 44 (S_flow_reader.mk r2.2.2.f_s r2.2.2.f_at (bif r2.2.2.f_bad then true else (!r2.2.1)))).bind fun r3 =>
 if r3.1 = true then (flow_reader_seq__o0_g1_0 R_flow_reader_value__o0 n k b2 (S_api_Node.mk 2 [] [] (([]:List (S_api_Node)) ++ ([r2.1]:List (S_api_Node)))) r3.2)
 else ((flow_reader_take__o0 n 93 r3.2).bind fun r4 =>
 some ((S_api_Node.mk 2 [] [] (([]:List (S_api_Node)) ++ ([r2.1]:List (S_api_Node)))),(S_flow_reader.mk r4.2.f_s r4.2.f_at (!r4.1))))) else none))
def flow_reader_seq__o0_g1_0 (R_flow_reader_value__o0:S_flow_reader → Option (S_api_Node × Bool × S_flow_reader)) (n:Nat):Nat → S_api_Node → S_api_Node → S_flow_reader → Option (S_api_Node × S_flow_reader)
 | 0,_,_,_=>none
 | k + 1,b2,b3,b1000000=>(R_flow_reader_value__o0 b1000000).bind fun r1 =>
 if (bif r1.2.2.f_bad then true else (!r1.2.1)) = true then (some (b3,(S_flow_reader.mk r1.2.2.f_s r1.2.2.f_at (bif r1.2.2.f_bad then true else (!r1.2.1)))))
 else (if (decide ((List.length b3.f_Kids + List.length ([r1.1]:List (S_api_Node))) * (72 + 1) ≤ limit)) = true then ((flow_reader_take__o0 n 44 (S_flow_reader.mk r1.2.2.f_s r1.2.2.f_at (bif r1.2.2.f_bad then true else (!r1.2.1)))).bind fun r2 =>
 if r2.1 = true then (flow_reader_seq__o0_g1_0 R_flow_reader_value__o0 n k b2 (S_api_Node.mk b3.f_Kind b3.f_Text b3.f_Keys (b3.f_Kids ++ ([r1.1]:List (S_api_Node)))) r2.2)
 else ((flow_reader_take__o0 n 93 r2.2).bind fun r3 =>
 some ((S_api_Node.mk b3.f_Kind b3.f_Text b3.f_Keys (b3.f_Kids ++ ([r1.1]:List (S_api_Node)))),(S_flow_reader.mk r3.2.f_s r3.2.f_at (!r3.1))))) else none)
end
abbrev hR18 (R_flow_reader_value__o0:S_flow_reader → Option (S_api_Node × Bool × S_flow_reader)):Prop:=∀ (h0:S_flow_reader) (r:S_api_Node × Bool × S_flow_reader),R_flow_reader_value__o0 h0 = some r → CallsB Tryz.prog 112 [.own 1000000 0] [(1000000,137,[.str h0.f_s,vi h0.f_at,vb h0.f_bad])] (.tup [.agg [vi r.1.f_Kind,.str r.1.f_Text,ls r.1.f_Keys,tn8 r.1.f_Kids],vb r.2.1]) [(1000000,137,[.str r.2.2.f_s,vi r.2.2.f_at,vb r.2.2.f_bad])]
abbrev ex88 (x0:S_flow_reader):=(IntKind.wrap .i64 (x0.f_at + 1))
theorem ok_flow_reader_seq__o0_g1 (R_flow_reader_value__o0:S_flow_reader → Option (S_api_Node × Bool × S_flow_reader)) (hR_flow_reader_value__o0:hR18 R_flow_reader_value__o0) (n:Nat) {F0:Fz} {w0:Pt Tryz.prog} {Q:Exit → Act → World → Prop} (k:Nat):(∀ (b2:S_api_Node) (b1000000:S_flow_reader) (o:S_api_Node × S_flow_reader),flow_reader_seq__o0_g1_e R_flow_reader_value__o0 n k b2 b1000000 = some o → To 53 F0 w0 [(2,.own 2 0)] [(2,26,qc14 4123 o.1),(4123,26,[rc12 o.1.f_Kids]),(1000000,137,qc17 o.2)] .ret Q → WG Tryz.prog 53 F0 w0 [(0,.own 1000000 0),(2,.own 2 0)] [(2,26,qc9 b2),(1000000,137,qc17 b1000000)] (cI (cB (cF Tryz.f126))) (cI (cB (cF Tryz.f126))) Q) ∧
 (∀ (b2:S_api_Node) (b3:S_api_Node) (b1000000:S_flow_reader) (o:S_api_Node × S_flow_reader),flow_reader_seq__o0_g1_0 R_flow_reader_value__o0 n k b2 b3 b1000000 = some o → To 53 F0 w0 [(2,.own 2 0)] [(2,26,qc14 4123 o.1),(4123,26,[rc12 o.1.f_Kids]),(1000000,137,qc17 o.2)] .ret Q → WG Tryz.prog 53 F0 w0 [(0,.own 1000000 0),(2,.own 2 0),(3,.own 3 0)] [(2,26,qc9 b2),(3,26,qc14 4183 b3),(4183,26,[rc12 b3.f_Kids]),(1000000,137,qc17 b1000000)] (cI (cB (cF Tryz.f126))) (cG 0 (cB (cF Tryz.f126))) Q):=by
 induction k with
 | zero=>exact ⟨(by intro b2 b1000000 o h; cases h),(by intro b2 b3 b1000000 o h; cases h)⟩
 | succ k ih =>
  refine ⟨?_,?_⟩
  ·intro b2 b1000000 o h hQ
   rw [flow_reader_seq__o0_g1_e] at h
   refine WG.pass (Wp.seq (rg [0,2,3] [2,3,1000000] [(0,.own 1000000 0),(2,.own 2 0),(3,.own 3 0)] [(2,26,qc9 b2),(3,26,[vi 2,.str [],.val (.slice none 0 0),.val (.slice none 0 0)]),(1000000,137,qc17 b1000000)] (To.thenN (Wp.seq (rg [0,2,3] [2,3,1000000] [(0,.own 1000000 0),(2,.own 2 0),(3,.own 3 0)] [(2,26,qc9 b2),(3,26,[vi 2,.str [],.val (.slice none 0 0),.val (.slice none 0 0)]),(ex46 b1000000)] (To.thenN (Wp.seq (Wp.seq ?_))))))))
   obtain ⟨r1,hr1,h⟩:=bind_of h
   refine rb [] 1 ⟨[(1000000,1000000)],[(1000000,1000000)],[.own 1000000 0,.val (.int .u8 93)],[(ex46 b1000000)],vb r1.1,[(1000000,137,qc17 r1.2)]⟩ [0,2,3,15] [2,3,1000000] [(0,.own 1000000 0),(2,.own 2 0),(3,.own 3 0),(15,vb r1.1)] [(2,26,qc9 b2),(3,26,[vi 2,.str [],.val (.slice none 0 0),.val (.slice none 0 0)]),(1000000,137,qc17 r1.2)] ((ok_flow_reader_take__o0 n 93 (ex48 b1000000) _ hr1)) (To.thenN (cn h (fun h=>?_) (fun h=>?_)))
   ·refine Wp.seq (rg [2] [2,1000000] [(2,.own 2 0)] [(2,26,[vi 2,.str [],.val (.slice none 0 0),.val (.slice none 0 0)]),(1000000,137,qc17 r1.2)] (To.thenN (Wp.ret (To.thenR (To.goesO (.inr (.inl rfl)) (kt [2] [2,1000000] [(2,.own 2 0)] [(2,26,[vi 2,.str [],.val (.slice none 0 0),.val (.slice none 0 0)]),(1000000,137,qc17 r1.2)] (To.pre (St.vacantB 2 3 4123 26 (good_E_api_Node _) (by decide) (by kernel_rfl) (L':=[(2,26,[vi 2,.str [],.val (.slice none 0 0),.row 4123]),(1000000,137,qc17 r1.2)]) (by kernel_rfl)) (kt [2] [2,4123,1000000] [(2,.own 2 0)] [(2,26,[vi 2,.str [],.val (.slice none 0 0),.row 4123]),(4123,26,[rc12 []]),(1000000,137,qc17 r1.2)] (To.weak (K':=[(2,.own 2 0)]) (L':=[(2,26,[vi 2,.str [],ls [],.row 4123]),(4123,26,[rc12 []]),(1000000,137,qc17 r1.2)]) (.cons (.refl _) .nil) (.cons (.cons (.refl _) (.cons (.refl _) (.cons (.zero _ _) (.cons (.refl _) .nil)))) (.cons (.cons (.refl _) .nil) (.cons (.cons (.refl _) (.cons (.refl _) (.cons (.refl _) .nil))) .nil))) ?_)))))))))
    cases h
    exact hQ
   ·refine Wp.skip (To.thenN (Wp.seq (kw [0,2,3,15] [2,3,1000000] [(0,.own 1000000 0),(2,.own 2 0),(3,.own 3 0),(15,vb r1.1)] [(2,26,qc9 b2),(3,26,[vi 2,.str [],.val (.slice none 0 0),.val (.slice none 0 0)]),(1000000,137,qc17 r1.2)] (Wp.pre (St.vacantB 3 3 4183 26 (good_E_api_Node _) (by decide) (by kernel_rfl) (L':=[(2,26,qc9 b2),(3,26,[vi 2,.str [],.val (.slice none 0 0),.row 4183]),(1000000,137,qc17 r1.2)]) (by kernel_rfl)) (kw [0,2,3,15] [2,3,4183,1000000] [(0,.own 1000000 0),(2,.own 2 0),(3,.own 3 0),(15,vb r1.1)] [(2,26,qc9 b2),(3,26,[vi 2,.str [],.val (.slice none 0 0),.row 4183]),(4183,26,[rc12 []]),(1000000,137,qc17 r1.2)] (Wp.label (To.thenN (Wp.seq ?_))))))))
    obtain ⟨r2,hr2,h⟩:=bind_of h
    refine rb [] 1 ⟨[(1000000,1000000)],[(1000000,1000000)],[.own 1000000 0],[(1000000,137,qc17 r1.2)],.tup [.agg (qc9 r2.1),vb r2.2.1],[(1000000,137,qc17 r2.2.2)]⟩ [0,2,3,4,5] [2,3,4,4183,1000000] [(0,.own 1000000 0),(2,.own 2 0),(3,.own 3 0),(4,.own 4 0),(5,vb r2.2.1)] [(2,26,qc9 b2),(3,26,[vi 2,.str [],.val (.slice none 0 0),.row 4183]),(4,26,qc9 r2.1),(4183,26,[rc12 []]),(1000000,137,qc17 r2.2.2)] ((hR_flow_reader_value__o0 r1.2 _ hr2)) (To.thenN (Wp.seq (Wp.seq (rg [0,2,3,4] [2,3,4,4183,1000000] [(0,.own 1000000 0),(2,.own 2 0),(3,.own 3 0),(4,.own 4 0)] [(2,26,qc9 b2),(3,26,[vi 2,.str [],.val (.slice none 0 0),.row 4183]),(4,26,qc9 r2.1),(4183,26,[rc12 []]),(1000000,137,[.str r2.2.2.f_s,vi r2.2.2.f_at,vb (bif r2.2.2.f_bad then true else (!r2.2.1))])] (To.thenN (Wp.seq (rg [0,2,3,4,36] [2,3,4,4183,1000000] [(0,.own 1000000 0),(2,.own 2 0),(3,.own 3 0),(4,.own 4 0),(36,vb (bif r2.2.2.f_bad then true else (!r2.2.1)))] [(2,26,qc9 b2),(3,26,[vi 2,.str [],.val (.slice none 0 0),.row 4183]),(4,26,qc9 r2.1),(4183,26,[rc12 []]),(1000000,137,[.str r2.2.2.f_s,vi r2.2.2.f_at,vb (bif r2.2.2.f_bad then true else (!r2.2.1))])] (To.thenN (cn h (fun h=>?_) (fun h=>?_))))))))))
    ·refine Wp.seq (rg [2] [2,4183,1000000] [(2,.own 2 0)] [(2,26,[vi 2,.str [],.val (.slice none 0 0),.row 4183]),(4183,26,[rc12 []]),(1000000,137,[.str r2.2.2.f_s,vi r2.2.2.f_at,vb (bif r2.2.2.f_bad then true else (!r2.2.1))])] (To.thenN (Wp.ret (To.thenR (To.goesO (.inr (.inl rfl)) (nt [2] [2,4183,1000000] [(4183,4123)] [2] [2,4123,1000000] [(2,.own 2 0)] [(2,26,[vi 2,.str [],.val (.slice none 0 0),.row 4123]),(4123,26,[rc12 []]),(1000000,137,[.str r2.2.2.f_s,vi r2.2.2.f_at,vb (bif r2.2.2.f_bad then true else (!r2.2.1))])] (To.weak (K':=[(2,.own 2 0)]) (L':=[(2,26,[vi 2,.str [],ls [],.row 4123]),(4123,26,[rc12 []]),(1000000,137,[.str r2.2.2.f_s,vi r2.2.2.f_at,vb (bif r2.2.2.f_bad then true else (!r2.2.1))])]) (.cons (.refl _) .nil) (.cons (.cons (.refl _) (.cons (.refl _) (.cons (.zero _ _) (.cons (.refl _) .nil)))) (.cons (.cons (.refl _) .nil) (.cons (.cons (.refl _) (.cons (.refl _) (.cons (.refl _) .nil))) .nil))) ?_)))))))
     cases h
     exact hQ
    ·refine Wp.skip (To.thenN (Wp.seq ?_))
     obtain ⟨hc5,h⟩:=chk_of h
     refine rr [] [(3,rs13 [r2.1]),(4,rs13 (([]:List (S_api_Node)) ++ ([r2.1]:List (S_api_Node))))] [] [0,2,3] [2,3,42,1000000] [(0,.own 1000000 0),(2,.own 2 0),(3,.own 3 0)] [(2,26,qc9 b2),(3,26,[vi 2,.str [],.val (.slice none 0 0),.row 42]),(42,26,[rc12 (([]:List (S_api_Node)) ++ ([r2.1]:List (S_api_Node)))]),(1000000,137,[.str r2.2.2.f_s,vi r2.2.2.f_at,vb (bif r2.2.2.f_bad then true else (!r2.2.1))])] [(MkOb 4 (qc9 r2.1) 1 (rs13 [r2.1]) ∧ GoodR (rs13 [r2.1])),_,(AppOb zx7 E_api_Node ([]:List (S_api_Node)) (List.flatMap E_api_Node ([r2.1]:List (S_api_Node))) (List.length ([r2.1]:List (S_api_Node))) (rs13 (([]:List (S_api_Node)) ++ ([r2.1]:List (S_api_Node)))) ∧ GoodR (rs13 (([]:List (S_api_Node)) ++ ([r2.1]:List (S_api_Node)))))] (AllP.cons (mkOb (by kernel_rfl) rfl (by kernel_rfl) (good_E_api_Node _)) (AllP.cons hc5 (AllP.cons (appOb rfl rfl (good_E_api_Node _)) AllP.nil))) (To.thenN (Wp.seq (Wp.seq ?_)))
     obtain ⟨r3,hr3,h⟩:=bind_of h
     refine rb [] 1 ⟨[(1000000,1000000)],[(1000000,1000000)],[.own 1000000 0,.val (.int .u8 44)],[(1000000,137,[.str r2.2.2.f_s,vi r2.2.2.f_at,vb (bif r2.2.2.f_bad then true else (!r2.2.1))])],vb r3.1,[(1000000,137,qc17 r3.2)]⟩ [0,2,3,45] [2,3,42,1000000] [(0,.own 1000000 0),(2,.own 2 0),(3,.own 3 0),(45,vb r3.1)] [(2,26,qc9 b2),(3,26,[vi 2,.str [],.val (.slice none 0 0),.row 42]),(42,26,[rc12 (([]:List (S_api_Node)) ++ ([r2.1]:List (S_api_Node)))]),(1000000,137,qc17 r3.2)] ((ok_flow_reader_take__o0 n 44 (S_flow_reader.mk r2.2.2.f_s r2.2.2.f_at (bif r2.2.2.f_bad then true else (!r2.2.1))) _ hr3)) (To.thenN (cn h (fun h=>?_) (fun h=>?_)))
     ·refine Wp.goto (To.thenG (nt [0,2,3] [2,3,42,1000000] [(42,4183)] [0,2,3] [2,3,4183,1000000] [(0,.own 1000000 0),(2,.own 2 0),(3,.own 3 0)] [(2,26,qc9 b2),(3,26,[vi 2,.str [],.val (.slice none 0 0),.row 4183]),(4183,26,[rc12 (([]:List (S_api_Node)) ++ ([r2.1]:List (S_api_Node)))]),(1000000,137,qc17 r3.2)] (To.weak (K':=[(0,.own 1000000 0),(2,.own 2 0),(3,.own 3 0)]) (L':=[(2,26,qc9 b2),(3,26,[vi 2,.str [],ls [],.row 4183]),(4183,26,[rc12 (([]:List (S_api_Node)) ++ ([r2.1]:List (S_api_Node)))]),(1000000,137,qc17 r3.2)]) (.cons (.refl _) (.cons (.refl _) (.cons (.refl _) .nil))) (.cons (.cons (.refl _) (.cons (.refl _) (.cons (.refl _) (.cons (.refl _) .nil)))) (.cons (.cons (.refl _) (.cons (.refl _) (.cons (.zero _ _) (.cons (.refl _) .nil)))) (.cons (.cons (.refl _) .nil) (.cons (.cons (.refl _) (.cons (.refl _) (.cons (.refl _) .nil))) .nil)))) (To.goto (rest:=cG 0 (cB (cF Tryz.f126))) (by kernel_rfl) ?_))))
      exact ih.2 b2 (S_api_Node.mk 2 [] [] (([]:List (S_api_Node)) ++ ([r2.1]:List (S_api_Node)))) r3.2 _ h hQ
     ·refine Wp.skip (To.thenN (Wp.seq ?_))
      obtain ⟨r4,hr4,h⟩:=bind_of h
      refine rb [] 2 ⟨[(1000000,1000000)],[(1000000,1000000)],[.own 1000000 0,.val (.int .u8 93)],[(1000000,137,qc17 r3.2)],vb r4.1,[(1000000,137,qc17 r4.2)]⟩ [2,3] [2,3,42,1000000] [(2,.own 2 0),(3,.own 3 0)] [(2,26,qc9 b2),(3,26,[vi 2,.str [],.val (.slice none 0 0),.row 42]),(42,26,[rc12 (([]:List (S_api_Node)) ++ ([r2.1]:List (S_api_Node)))]),(1000000,137,[.str r4.2.f_s,vi r4.2.f_at,vb (!r4.1)])] ((ok_flow_reader_take__o0 n 93 r3.2 _ hr4)) (To.thenN (Wp.seq (rg [2] [2,42,1000000] [(2,.own 2 0)] [(2,26,[vi 2,.str [],.val (.slice none 0 0),.row 42]),(42,26,[rc12 (([]:List (S_api_Node)) ++ ([r2.1]:List (S_api_Node)))]),(1000000,137,[.str r4.2.f_s,vi r4.2.f_at,vb (!r4.1)])] (To.thenN (Wp.ret (To.goesO (.inr (.inl rfl)) (nt [2] [2,42,1000000] [(42,4123)] [2] [2,4123,1000000] [(2,.own 2 0)] [(2,26,[vi 2,.str [],.val (.slice none 0 0),.row 4123]),(4123,26,[rc12 (([]:List (S_api_Node)) ++ ([r2.1]:List (S_api_Node)))]),(1000000,137,[.str r4.2.f_s,vi r4.2.f_at,vb (!r4.1)])] (To.weak (K':=[(2,.own 2 0)]) (L':=[(2,26,[vi 2,.str [],ls [],.row 4123]),(4123,26,[rc12 (([]:List (S_api_Node)) ++ ([r2.1]:List (S_api_Node)))]),(1000000,137,[.str r4.2.f_s,vi r4.2.f_at,vb (!r4.1)])]) (.cons (.refl _) .nil) (.cons (.cons (.refl _) (.cons (.refl _) (.cons (.zero _ _) (.cons (.refl _) .nil)))) (.cons (.cons (.refl _) .nil) (.cons (.cons (.refl _) (.cons (.refl _) (.cons (.refl _) .nil))) .nil))) ?_))))))))
      cases h
      exact hQ
  ·intro b2 b3 b1000000 o h hQ
   rw [flow_reader_seq__o0_g1_0] at h
   refine WG.pass (Wp.seq (Wp.skip (To.thenN (Wp.seq ?_))))
   obtain ⟨r1,hr1,h⟩:=bind_of h
   refine rb [] 1 ⟨[(1000000,1000000)],[(1000000,1000000)],[.own 1000000 0],[(1000000,137,qc17 b1000000)],.tup [.agg (qc9 r1.1),vb r1.2.1],[(1000000,137,qc17 r1.2.2)]⟩ [0,2,3,4,5] [2,3,4,4183,1000000] [(0,.own 1000000 0),(2,.own 2 0),(3,.own 3 0),(4,.own 4 0),(5,vb r1.2.1)] [(2,26,qc9 b2),(3,26,qc14 4183 b3),(4,26,qc9 r1.1),(4183,26,[rc12 b3.f_Kids]),(1000000,137,qc17 r1.2.2)] ((hR_flow_reader_value__o0 b1000000 _ hr1)) (To.thenN (Wp.seq (Wp.seq (rg [0,2,3,4] [2,3,4,4183,1000000] [(0,.own 1000000 0),(2,.own 2 0),(3,.own 3 0),(4,.own 4 0)] [(2,26,qc9 b2),(3,26,qc14 4183 b3),(4,26,qc9 r1.1),(4183,26,[rc12 b3.f_Kids]),(1000000,137,[.str r1.2.2.f_s,vi r1.2.2.f_at,vb (bif r1.2.2.f_bad then true else (!r1.2.1))])] (To.thenN (Wp.seq (rg [0,2,3,4,36] [2,3,4,4183,1000000] [(0,.own 1000000 0),(2,.own 2 0),(3,.own 3 0),(4,.own 4 0),(36,vb (bif r1.2.2.f_bad then true else (!r1.2.1)))] [(2,26,qc9 b2),(3,26,qc14 4183 b3),(4,26,qc9 r1.1),(4183,26,[rc12 b3.f_Kids]),(1000000,137,[.str r1.2.2.f_s,vi r1.2.2.f_at,vb (bif r1.2.2.f_bad then true else (!r1.2.1))])] (To.thenN (cn h (fun h=>?_) (fun h=>?_))))))))))
   ·refine Wp.seq (rg [2] [2,4183,1000000] [(2,.own 2 0)] [(2,26,qc14 4183 b3),(4183,26,[rc12 b3.f_Kids]),(1000000,137,[.str r1.2.2.f_s,vi r1.2.2.f_at,vb (bif r1.2.2.f_bad then true else (!r1.2.1))])] (To.thenN (Wp.ret (To.thenR (To.goesO (.inr (.inl rfl)) (nt [2] [2,4183,1000000] [(4183,4123)] [2] [2,4123,1000000] [(2,.own 2 0)] [(2,26,qc14 4123 b3),(4123,26,[rc12 b3.f_Kids]),(1000000,137,[.str r1.2.2.f_s,vi r1.2.2.f_at,vb (bif r1.2.2.f_bad then true else (!r1.2.1))])] ?_))))))
    cases h
    exact hQ
   ·refine Wp.skip (To.thenN (Wp.seq ?_))
    obtain ⟨hc4,h⟩:=chk_of h
    refine rr [] [(3,rs13 [r1.1]),(4,rs13 (b3.f_Kids ++ ([r1.1]:List (S_api_Node))))] [] [0,2,3] [2,3,42,1000000] [(0,.own 1000000 0),(2,.own 2 0),(3,.own 3 0)] [(2,26,qc9 b2),(3,26,qc14 42 b3),(42,26,[rc12 (b3.f_Kids ++ ([r1.1]:List (S_api_Node)))]),(1000000,137,[.str r1.2.2.f_s,vi r1.2.2.f_at,vb (bif r1.2.2.f_bad then true else (!r1.2.1))])] [(MkOb 4 (qc9 r1.1) 1 (rs13 [r1.1]) ∧ GoodR (rs13 [r1.1])),_,(AppOb zx7 E_api_Node b3.f_Kids (List.flatMap E_api_Node ([r1.1]:List (S_api_Node))) (List.length ([r1.1]:List (S_api_Node))) (rs13 (b3.f_Kids ++ ([r1.1]:List (S_api_Node)))) ∧ GoodR (rs13 (b3.f_Kids ++ ([r1.1]:List (S_api_Node)))))] (AllP.cons (mkOb (by kernel_rfl) rfl (by kernel_rfl) (good_E_api_Node _)) (AllP.cons hc4 (AllP.cons (appOb rfl rfl (good_E_api_Node _)) AllP.nil))) (To.thenN (Wp.seq (Wp.seq ?_)))
    obtain ⟨r2,hr2,h⟩:=bind_of h
    refine rb [] 1 ⟨[(1000000,1000000)],[(1000000,1000000)],[.own 1000000 0,.val (.int .u8 44)],[(1000000,137,[.str r1.2.2.f_s,vi r1.2.2.f_at,vb (bif r1.2.2.f_bad then true else (!r1.2.1))])],vb r2.1,[(1000000,137,qc17 r2.2)]⟩ [0,2,3,45] [2,3,42,1000000] [(0,.own 1000000 0),(2,.own 2 0),(3,.own 3 0),(45,vb r2.1)] [(2,26,qc9 b2),(3,26,qc14 42 b3),(42,26,[rc12 (b3.f_Kids ++ ([r1.1]:List (S_api_Node)))]),(1000000,137,qc17 r2.2)] ((ok_flow_reader_take__o0 n 44 (S_flow_reader.mk r1.2.2.f_s r1.2.2.f_at (bif r1.2.2.f_bad then true else (!r1.2.1))) _ hr2)) (To.thenN (cn h (fun h=>?_) (fun h=>?_)))
    ·refine Wp.goto (To.thenG (nt [0,2,3] [2,3,42,1000000] [(42,4183)] [0,2,3] [2,3,4183,1000000] [(0,.own 1000000 0),(2,.own 2 0),(3,.own 3 0)] [(2,26,qc9 b2),(3,26,qc14 4183 b3),(4183,26,[rc12 (b3.f_Kids ++ ([r1.1]:List (S_api_Node)))]),(1000000,137,qc17 r2.2)] (To.goto (rest:=cG 0 (cB (cF Tryz.f126))) (by kernel_rfl) ?_)))
     exact ih.2 b2 (S_api_Node.mk b3.f_Kind b3.f_Text b3.f_Keys (b3.f_Kids ++ ([r1.1]:List (S_api_Node)))) r2.2 _ h hQ
    ·refine Wp.skip (To.thenN (Wp.seq ?_))
     obtain ⟨r3,hr3,h⟩:=bind_of h
     refine rb [] 2 ⟨[(1000000,1000000)],[(1000000,1000000)],[.own 1000000 0,.val (.int .u8 93)],[(1000000,137,qc17 r2.2)],vb r3.1,[(1000000,137,qc17 r3.2)]⟩ [2,3] [2,3,42,1000000] [(2,.own 2 0),(3,.own 3 0)] [(2,26,qc9 b2),(3,26,qc14 42 b3),(42,26,[rc12 (b3.f_Kids ++ ([r1.1]:List (S_api_Node)))]),(1000000,137,[.str r3.2.f_s,vi r3.2.f_at,vb (!r3.1)])] ((ok_flow_reader_take__o0 n 93 r2.2 _ hr3)) (To.thenN (Wp.seq (rg [2] [2,42,1000000] [(2,.own 2 0)] [(2,26,qc14 42 b3),(42,26,[rc12 (b3.f_Kids ++ ([r1.1]:List (S_api_Node)))]),(1000000,137,[.str r3.2.f_s,vi r3.2.f_at,vb (!r3.1)])] (To.thenN (Wp.ret (To.goesO (.inr (.inl rfl)) (nt [2] [2,42,1000000] [(42,4123)] [2] [2,4123,1000000] [(2,.own 2 0)] [(2,26,qc14 4123 b3),(4123,26,[rc12 (b3.f_Kids ++ ([r1.1]:List (S_api_Node)))]),(1000000,137,[.str r3.2.f_s,vi r3.2.f_at,vb (!r3.1)])] ?_)))))))
     cases h
     exact hQ
def flow_reader_seq__o0 (R_flow_reader_value__o0:S_flow_reader → Option (S_api_Node × Bool × S_flow_reader)) (n:Nat) (h0:S_flow_reader):Option (S_api_Node × S_flow_reader) :=
 (flow_reader_seq__o0_g1_e R_flow_reader_value__o0 n n (S_api_Node.mk 0 [] [] []) h0).bind fun o1 =>
 some (o1.1,o1.2)
theorem ok_flow_reader_seq__o0 (R_flow_reader_value__o0:S_flow_reader → Option (S_api_Node × Bool × S_flow_reader)) (hR_flow_reader_value__o0:hR18 R_flow_reader_value__o0) (n:Nat) (h0:S_flow_reader) (r:S_api_Node × S_flow_reader) (h:flow_reader_seq__o0 R_flow_reader_value__o0 n h0 = some r):CallsB Tryz.prog 126 [.own 1000000 0] [(1000000,137,qc17 h0)] (.agg (qc9 r.1)) [(1000000,137,qc17 r.2)]:=by
 unfold flow_reader_seq__o0 at h
 refine bo Tryz.f126 rfl fun F0 w0=>?_
 refine Wp.seq (rg [0,2] [2,1000000] [(0,.own 1000000 0),(2,.own 2 0)] [(2,26,[vi 0,.str [],.val (.slice none 0 0),.val (.slice none 0 0)]),(1000000,137,qc17 h0)] (To.thenN ?_))
 obtain ⟨o1,ho1,h⟩:=bind_of h
 refine kw [0,2] [2,1000000] [(0,.own 1000000 0),(2,.own 2 0)] [(2,26,[vi 0,.str [],.val (.slice none 0 0),.val (.slice none 0 0)]),(1000000,137,qc17 h0)] (Wp.weak (K':=[(0,.own 1000000 0),(2,.own 2 0)]) (L':=[(2,26,[vi 0,.str [],ls [],tn8 []]),(1000000,137,qc17 h0)]) (.cons (.refl _) (.cons (.refl _) .nil)) (.cons (.cons (.refl _) (.cons (.refl _) (.cons (.zero _ _) (.cons (.zeroT _ _ _) .nil)))) (.cons (.cons (.refl _) (.cons (.refl _) (.cons (.refl _) .nil))) .nil)) (Wp.scopeG ((ok_flow_reader_seq__o0_g1 R_flow_reader_value__o0 hR_flow_reader_value__o0 n n).1 zx7 h0 o1 ho1 (kt [2] [2,4123,1000000] [(2,.own 2 0)] [(2,26,qc14 4123 o1.1),(4123,26,[rc12 o1.1.f_Kids]),(1000000,137,qc17 o1.2)] (To.pre (St.settle (ks:=[4123]) (kk:=[2]) (kl:=[2,4123,1000000]) (K':=[(2,.own 2 0)]) (L':=[(2,26,qc14 4123 o1.1),(4123,26,[rc15 o1.1.f_Kids]),(1000000,137,qc17 o1.2)]) (by kernel_rfl)) (To.pre (St.sealB [2] (L':=[(2,26,qc16 o1.1),(4123,26,[rc15 o1.1.f_Kids]),(1000000,137,qc17 o1.2)]) (by kernel_rfl)) (To.weak (K':=[(2,.own 2 0)]) (L':=[(2,26,qc9 o1.1),(4123,26,[rc15 o1.1.f_Kids]),(1000000,137,qc17 o1.2)]) (.cons (.refl _) .nil) (.cons (.cons (.refl _) (.cons (.refl _) (.cons (.refl _) (.cons (.close _ _ _ _) .nil)))) (.cons (.cons (.refl _) .nil) (.cons (.cons (.refl _) (.cons (.refl _) (.cons (.refl _) .nil))) .nil))) ?_)))))))
 cases h
 exact To.doneB hΓ [1000000] (by kernel_rfl) (by kernel_rfl)
def E_i64:Int → List D:=fun x=>[.val (.int .i64 x)]
def flow_reader_quoted__o0 (n:Nat) (h0:S_flow_reader):Option ((List UInt8) × S_flow_reader) :=
 (quote_Scan n h0.f_s h0.f_at).bind fun r1 =>
 if (r1.2.2 != 0) = true then (some ([],(S_flow_reader.mk h0.f_s h0.f_at true)))
 else (some (r1.1,(S_flow_reader.mk h0.f_s r1.2.1 h0.f_bad)))
theorem ok_flow_reader_quoted__o0 (n:Nat) (h0:S_flow_reader) (r:(List UInt8) × S_flow_reader) (h:flow_reader_quoted__o0 n h0 = some r):CallsB Tryz.prog 128 [.own 1000000 0] [(1000000,137,qc17 h0)] (.str r.1) [(1000000,137,qc17 r.2)]:=by
 unfold flow_reader_quoted__o0 at h
 refine bo Tryz.f128 rfl fun F0 w0=>?_
 refine Wp.seq (rg [0] [1000000] [(0,.own 1000000 0)] [(1000000,137,qc17 h0)] (To.thenN (Wp.seq ?_)))
 obtain ⟨r1,hr1,h⟩:=bind_of h
 refine Wp.regionD hm hΓ [(8,.tup [.str r1.1,vi r1.2.1,vi r1.2.2])] [0,3,4,5] [1000000] (K':=[(0,.own 1000000 0),(3,.str r1.1),(4,vi r1.2.1),(5,vi r1.2.2)]) (L':=[(1000000,137,qc17 h0)]) (ob:=[(true = true → CX Tryz.prog 31 [.str h0.f_s,vi h0.f_at] (.tup [.str r1.1,vi r1.2.1,vi r1.2.2]))]) (by kernel_rfl) (AllP.cons (fun _=>cx (ok_quote_Scan n h0.f_s h0.f_at _ hr1)) AllP.nil) (To.thenN (Wp.seq (Wp.seq (rg [0,3,4,20] [1000000] [(0,.own 1000000 0),(3,.str r1.1),(4,vi r1.2.1),(20,vb (r1.2.2 != 0))] [(1000000,137,qc17 h0)] (To.thenN (cn h (fun h=>?_) (fun h=>?_)))))))
 ·refine Wp.seq (rg [] [1000000] [] [(1000000,137,[.str h0.f_s,vi h0.f_at,vb true])] (To.thenN (Wp.seq (rg [2] [1000000] [(2,.str [])] [(1000000,137,[.str h0.f_s,vi h0.f_at,vb true])] (To.thenN (Wp.ret (To.thenR ?_)))))))
  cases h
  exact To.doneB hΓ [1000000] (by kernel_rfl) (by kernel_rfl)
 ·refine Wp.skip (To.thenN (Wp.seq (rg [3] [1000000] [(3,.str r1.1)] [(1000000,137,[.str h0.f_s,vi r1.2.1,vb h0.f_bad])] (To.thenN (Wp.seq (rg [2] [1000000] [(2,.str r1.1)] [(1000000,137,[.str h0.f_s,vi r1.2.1,vb h0.f_bad])] (To.thenN (Wp.ret ?_))))))))
  cases h
  exact To.doneB hΓ [1000000] (by kernel_rfl) (by kernel_rfl)
def flow_reader_plain__o0_l1 (n:Nat) (v3:Int):Nat → S_flow_reader → Option (S_flow_reader)
 | 0,_=>none
 | k + 1,b1000000=>if (decide (b1000000.f_at < (List.length b1000000.f_s:Int))) = true then (if (decide (0 ≤ b1000000.f_at ∧ b1000000.f_at < (List.length b1000000.f_s:Int))) = true then (if ((!((((IntKind.wrap .i64 (b1000000.f_at + 1)) == (List.length b1000000.f_s:Int)) == false) && ((((((b1000000.f_s)[Int.toNat b1000000.f_at]?.getD 0).toNat:Int) == 58) == true) && ((decide ((Lib.indexByte ([44,91,93,123,125]:List UInt8) (Int.toNat (((b1000000.f_s)[Int.toNat b1000000.f_at]?.getD 0).toNat:Int)).toUInt8) ≥ 0)) == false))) || decide (0 ≤ (IntKind.wrap .i64 (b1000000.f_at + 1)) ∧ (IntKind.wrap .i64 (b1000000.f_at + 1)) < (List.length b1000000.f_s:Int)))) = true then (lett ((bif (decide ((Lib.indexByte ([44,91,93,123,125]:List UInt8) (Int.toNat (((b1000000.f_s)[Int.toNat b1000000.f_at]?.getD 0).toNat:Int)).toUInt8) ≥ 0)) then true else (bif ((((b1000000.f_s)[Int.toNat b1000000.f_at]?.getD 0).toNat:Int) == 58) then (bif ((IntKind.wrap .i64 (b1000000.f_at + 1)) == (List.length b1000000.f_s:Int)) then true else (decide ((Lib.indexByte ([32,44,91,93,123,125]:List UInt8) (Int.toNat (((b1000000.f_s)[Int.toNat (IntKind.wrap .i64 (b1000000.f_at + 1))]?.getD 0).toNat:Int)).toUInt8) ≥ 0))) else false)):Bool) fun x1 =>
 if x1 = true then some b1000000
 else (flow_reader_plain__o0_l1 n v3 k (S_flow_reader.mk b1000000.f_s (IntKind.wrap .i64 (b1000000.f_at + 1)) b1000000.f_bad))) else none) else none)
 else some b1000000
abbrev ex50 (x0:S_flow_reader):=(Lib.indexByte ([44,91,93,123,125]:List UInt8) (Int.toNat (((x0.f_s)[Int.toNat x0.f_at]?.getD 0).toNat:Int)).toUInt8)
abbrev ex51 (x0:S_flow_reader):=(Lib.indexByte ([32,44,91,93,123,125]:List UInt8) (Int.toNat (((x0.f_s)[Int.toNat (IntKind.wrap .i64 (x0.f_at + 1))]?.getD 0).toNat:Int)).toUInt8)
abbrev ex89 (x0:S_flow_reader):=(((x0.f_s)[Int.toNat x0.f_at]?.getD 0).toNat:Int)
theorem ok_flow_reader_plain__o0_l1 (n:Nat) (v3:Int) {F0:Fz} {w0:Pt Tryz.prog} {Q:Exit → Act → World → Prop} (k:Nat):∀ (b1000000:S_flow_reader) (o:S_flow_reader),flow_reader_plain__o0_l1 n v3 k b1000000 = some o → To 80 F0 w0 [(0,.own 1000000 0),(3,vi v3)] [(1000000,137,qc17 o)] (.exit 0) Q → WL Tryz.prog 80 F0 w0 [(0,.own 1000000 0),(3,vi v3)] [(1000000,137,qc17 b1000000)] (cI (cI (cA (cB (cB (cF Tryz.f129)))))) Q:=by
 induction k with
 | zero=>intro b1000000 o h; cases h
 | succ k ih =>
  intro b1000000 o h hQ
  rw [flow_reader_plain__o0_l1] at h
  refine WL.round (Wp.seq (Wp.seq (Wp.regionD hm hΓ [] [0,3,18] [1000000] (K':=[(0,.own 1000000 0),(3,vi v3),(18,vb (decide (b1000000.f_at < (ex49 b1000000))))]) (L':=[(1000000,137,qc17 b1000000)]) (ob:=[]) (by kernel_rfl) AllP.nil (To.thenN (cn h (fun h=>?_) (fun h=>?_))))))
  ·refine Wp.skip (To.thenN (Wp.seq (Wp.block (Wp.seq ?_))))
   obtain ⟨hc3,h⟩:=chk_of h
   refine Wp.regionD hm hΓ [] [0,3,4] [1000000] (K':=[(0,.own 1000000 0),(3,vi v3),(4,.val (.int .u8 (ex89 b1000000)))]) (L':=[(1000000,137,qc17 b1000000)]) (ob:=[(decide (0 ≤ b1000000.f_at ∧ b1000000.f_at < (ex49 b1000000))) = true]) (by kernel_rfl) (AllP.cons hc3 AllP.nil) (To.thenN (Wp.seq ?_))
   obtain ⟨hc2,h⟩:=chk_of h
   obtain ⟨x1,hx1,h⟩:=lett_of h
   refine Wp.regionD hm hΓ [(1,vi (ex50 b1000000)),(29,vi (ex51 b1000000))] [0,3,68] [1000000] (K':=[(0,.own 1000000 0),(3,vi v3),(68,vb (bif (decide ((ex50 b1000000) ≥ 0)) then true else (bif ((ex89 b1000000) == 58) then (bif ((ex88 b1000000) == (ex49 b1000000)) then true else (decide ((ex51 b1000000) ≥ 0))) else false)))]) (L':=[(1000000,137,qc17 b1000000)]) (ob:=[(true = true → CX Tryz.prog 66 [.str [44,91,93,123,125],.val (.int .u8 (ex89 b1000000))] (vi (ex50 b1000000))),(!((((ex88 b1000000) == (ex49 b1000000)) == false) && ((((ex89 b1000000) == 58) == true) && ((decide ((ex50 b1000000) ≥ 0)) == false))) || decide (0 ≤ (ex88 b1000000) ∧ (ex88 b1000000) < (ex49 b1000000))) = true,(((((ex88 b1000000) == (ex49 b1000000)) == false) && ((((ex89 b1000000) == 58) == true) && ((decide ((ex50 b1000000) ≥ 0)) == false))) = true → CX Tryz.prog 66 [.str [32,44,91,93,123,125],.val (.int .u8 (((b1000000.f_s)[Int.toNat (ex88 b1000000)]?.getD 0).toNat:Int))] (vi (ex51 b1000000)))]) (by kernel_rfl) (AllP.cons (fun _=>cx (Sh.indexByte66)) (AllP.cons hc2 (AllP.cons (fun _=>cx (Sh.indexByte66)) AllP.nil))) (To.eq (K':=[(0,.own 1000000 0),(3,vi v3),(68,vb x1)]) (L':=[(1000000,137,qc17 b1000000)]) (by cases hx1; rfl) (by cases hx1; rfl) (To.thenN (cn h (fun h=>?_) (fun h=>?_))))
   ·refine Wp.exit (To.blockO (by decide) (To.thenX (To.thenX (kt [0,3] [1000000] [(0,.own 1000000 0),(3,vi v3)] [(1000000,137,qc17 b1000000)] ?_))))
    cases h
    exact hQ
   ·refine Wp.skip (To.blockN (To.thenN (rg [0,3] [1000000] [(0,.own 1000000 0),(3,vi v3)] [(ex46 b1000000)] (kt [0,3] [1000000] [(0,.own 1000000 0),(3,vi v3)] [(ex46 b1000000)] (To.again ?_)))))
    exact ih (ex48 b1000000) _ h hQ
  ·refine Wp.exit (To.thenX (To.thenX (kt [0,3] [1000000] [(0,.own 1000000 0),(3,vi v3)] [(1000000,137,qc17 b1000000)] ?_)))
   cases h
   exact hQ
def flow_reader_plain__o0 (n:Nat) (h0:S_flow_reader):Option ((List UInt8) × S_flow_reader) :=
 (flow_reader_plain__o0_l1 n h0.f_at n h0).bind fun o1 =>
 if (decide (0 ≤ o1.f_at ∧ o1.f_at ≤ (List.length o1.f_s:Int))) = true then (if (decide (0 ≤ h0.f_at ∧ h0.f_at ≤ o1.f_at)) = true then (if (decide (List.length (List.take (Int.toNat o1.f_at - Int.toNat h0.f_at) (List.drop (Int.toNat h0.f_at) o1.f_s)) < 4294967281)) = true then (some ((Lib.trimRightB (List.take (Int.toNat o1.f_at - Int.toNat h0.f_at) (List.drop (Int.toNat h0.f_at) o1.f_s)) 32),o1)) else none) else none) else none
theorem ok_flow_reader_plain__o0 (n:Nat) (h0:S_flow_reader) (r:(List UInt8) × S_flow_reader) (h:flow_reader_plain__o0 n h0 = some r):CallsB Tryz.prog 129 [.own 1000000 0] [(1000000,137,qc17 h0)] (.str r.1) [(1000000,137,qc17 r.2)]:=by
 unfold flow_reader_plain__o0 at h
 refine bo Tryz.f129 rfl fun F0 w0=>?_
 refine Wp.seq (rg [0] [1000000] [(0,.own 1000000 0)] [(1000000,137,qc17 h0)] (To.thenN (Wp.seq (rg [0,3] [1000000] [(0,.own 1000000 0),(3,vi h0.f_at)] [(1000000,137,qc17 h0)] (To.thenN (Wp.seq (Wp.block ?_)))))))
 obtain ⟨o1,ho1,h⟩:=bind_of h
 refine kw [0,3] [1000000] [(0,.own 1000000 0),(3,vi h0.f_at)] [(1000000,137,qc17 h0)] (Wp.loopL (ok_flow_reader_plain__o0_l1 n h0.f_at n h0 o1 ho1 (To.blockX (To.thenN (Wp.seq ?_)))))
 obtain ⟨hc3,h⟩:=chk_of h
 obtain ⟨hc4,h⟩:=chk_of h
 obtain ⟨u2,h⟩:=chk_of h
 refine Wp.regionD hm hΓ [(10,.str (Lib.trimRightB (List.take (Int.toNat o1.f_at - Int.toNat h0.f_at) (List.drop (Int.toNat h0.f_at) o1.f_s)) 32))] [2] [1000000] (K':=[(2,.str (Lib.trimRightB (List.take (Int.toNat o1.f_at - Int.toNat h0.f_at) (List.drop (Int.toNat h0.f_at) o1.f_s)) 32))]) (L':=[(1000000,137,qc17 o1)]) (ob:=[(decide (0 ≤ o1.f_at ∧ o1.f_at ≤ (List.length o1.f_s:Int))) = true,(decide (0 ≤ h0.f_at ∧ h0.f_at ≤ o1.f_at)) = true,(true = true → CX Tryz.prog 139 [.str (List.take (Int.toNat o1.f_at - Int.toNat h0.f_at) (List.drop (Int.toNat h0.f_at) o1.f_s)),.str [32]] (.str (Lib.trimRightB (List.take (Int.toNat o1.f_at - Int.toNat h0.f_at) (List.drop (Int.toNat h0.f_at) o1.f_s)) 32)))]) (by kernel_rfl) (AllP.cons hc3 (AllP.cons hc4 (AllP.cons (fun _=>cx (Sh.trimRight1139 (by decide) u2)) AllP.nil))) (To.thenN (Wp.ret ?_))
 cases h
 exact To.doneB hΓ [1000000] (by kernel_rfl) (by kernel_rfl)
def flow_reader_key__o0_j1 (n:Nat) (v12:Bool) (b1000000:S_flow_reader):Option ((List UInt8) × S_flow_reader) :=
 if v12 = true then ((flow_reader_quoted__o0 n b1000000).bind fun r2 =>
 some (r2.1,r2.2))
 else ((flow_reader_plain__o0 n b1000000).bind fun r3 =>
 (quote_Row n r3.1).bind fun r4 =>
 if (!r4) = true then (some (r3.1,(S_flow_reader.mk r3.2.f_s r3.2.f_at true)))
 else (some (r3.1,r3.2)))
theorem ok_flow_reader_key__o0_j1 (n:Nat) (v12:Bool) (b1000000:S_flow_reader) (o:(List UInt8) × S_flow_reader) (h:flow_reader_key__o0_j1 n v12 b1000000 = some o) {F0:Fz} {w0:Pt Tryz.prog} {Q:Exit → Act → World → Prop} (hQ:To 36 F0 w0 [(0,.own 1000000 0),(3,.str o.1)] [(1000000,137,qc17 o.2)] .normal Q):Wp Tryz.prog 36 F0 w0 [(0,.own 1000000 0),(12,vb v12)] [(1000000,137,qc17 b1000000)] (cB (cA (cB (cB (cF Tryz.f138))))) Q:=by
 unfold flow_reader_key__o0_j1 at h
 refine cn h (fun h=>?_) (fun h=>?_)
 ·obtain ⟨r2,hr2,h⟩:=bind_of h
  refine rb [] 1 ⟨[(1000000,1000000)],[(1000000,1000000)],[.own 1000000 0],[(1000000,137,qc17 b1000000)],.str r2.1,[(1000000,137,qc17 r2.2)]⟩ [0,3] [1000000] [(0,.own 1000000 0),(3,.str r2.1)] [(1000000,137,qc17 r2.2)] ((ok_flow_reader_quoted__o0 n b1000000 _ hr2)) (kt [0,3] [1000000] [(0,.own 1000000 0),(3,.str r2.1)] [(1000000,137,qc17 r2.2)] ?_)
  cases h
  exact hQ
 ·refine Wp.seq ?_
  obtain ⟨r3,hr3,h⟩:=bind_of h
  refine rb [] 1 ⟨[(1000000,1000000)],[(1000000,1000000)],[.own 1000000 0],[(1000000,137,qc17 b1000000)],.str r3.1,[(1000000,137,qc17 r3.2)]⟩ [0,3] [1000000] [(0,.own 1000000 0),(3,.str r3.1)] [(1000000,137,qc17 r3.2)] ((ok_flow_reader_plain__o0 n b1000000 _ hr3)) (To.thenN (Wp.seq ?_))
  obtain ⟨r4,hr4,h⟩:=bind_of h
  refine rc [] 1 [0,3,19] [1000000] [(0,.own 1000000 0),(3,.str r3.1),(19,vb (!r4))] [(1000000,137,qc17 r3.2)] (ok_quote_Row n r3.1 _ hr4) (To.thenN (cn h (fun h=>?_) (fun h=>?_)))
  ·refine rg [0,3] [1000000] [(0,.own 1000000 0),(3,.str r3.1)] [(1000000,137,[.str r3.2.f_s,vi r3.2.f_at,vb true])] (kt [0,3] [1000000] [(0,.own 1000000 0),(3,.str r3.1)] [(1000000,137,[.str r3.2.f_s,vi r3.2.f_at,vb true])] ?_)
   cases h
   exact hQ
  ·refine Wp.skip (kt [0,3] [1000000] [(0,.own 1000000 0),(3,.str r3.1)] [(1000000,137,qc17 r3.2)] ?_)
   cases h
   exact hQ
def flow_reader_key__o0 (n:Nat) (h0:S_flow_reader):Option ((List UInt8) × S_flow_reader) :=
 (flow_reader_next__o0 n h0).bind fun r1 =>
 (flow_reader_key__o0_j1 n (bif (r1.1 == 34) then true else (r1.1 == 39)) r1.2).bind fun o2 =>
 ((if (o2.2.f_bad == false) = true then flow_reader_take__o0 n 58 o2.2 else some (false,o2.2))).bind fun r3 =>
 some (o2.1,(S_flow_reader.mk r3.2.f_s r3.2.f_at (bif o2.2.f_bad then true else (!r3.1))))
theorem ok_flow_reader_key__o0 (n:Nat) (h0:S_flow_reader) (r:(List UInt8) × S_flow_reader) (h:flow_reader_key__o0 n h0 = some r):CallsB Tryz.prog 138 [.own 1000000 0] [(1000000,137,qc17 h0)] (.str r.1) [(1000000,137,qc17 r.2)]:=by
 unfold flow_reader_key__o0 at h
 refine bo Tryz.f138 rfl fun F0 w0=>?_
 refine Wp.seq (rg [0] [1000000] [(0,.own 1000000 0)] [(1000000,137,qc17 h0)] (To.thenN (Wp.seq ?_)))
 obtain ⟨r1,hr1,h⟩:=bind_of h
 refine rb [] 1 ⟨[(1000000,1000000)],[(1000000,1000000)],[.own 1000000 0],[(1000000,137,qc17 h0)],.val (.int .u8 r1.1),[(1000000,137,qc17 r1.2)]⟩ [0,4] [1000000] [(0,.own 1000000 0),(4,.val (.int .u8 r1.1))] [(1000000,137,qc17 r1.2)] ((ok_flow_reader_next__o0 n h0 _ hr1)) (To.thenN (Wp.seq (Wp.seq (rg [0,12] [1000000] [(0,.own 1000000 0),(12,vb (bif (r1.1 == 34) then true else (r1.1 == 39)))] [(1000000,137,qc17 r1.2)] (To.thenN ?_)))))
 obtain ⟨o2,ho2,h⟩:=bind_of h
 refine kw [0,12] [1000000] [(0,.own 1000000 0),(12,vb (bif (r1.1 == 34) then true else (r1.1 == 39)))] [(1000000,137,qc17 r1.2)] (ok_flow_reader_key__o0_j1 n (bif (r1.1 == 34) then true else (r1.1 == 39)) r1.2 o2 ho2 (To.thenN (Wp.seq ?_)))
 obtain ⟨r3,hr3,h⟩:=bind_of h
 refine rr [] [] [(7,⟨[(1000000,1000000)],[(1000000,1000000)],[.own 1000000 0,.val (.int .u8 58)],[(1000000,137,qc17 o2.2)],vb r3.1,[(1000000,137,qc17 r3.2)]⟩)] [3] [1000000] [(3,.str o2.1)] [(1000000,137,[.str r3.2.f_s,vi r3.2.f_at,vb (bif o2.2.f_bad then true else (!r3.1))])] [((o2.2.f_bad == false) = true → CbOb (CallsB Tryz.prog) 137 [.own 1000000 0,.val (.int .u8 58)] [some (137,qc17 o2.2)] ⟨[(1000000,1000000)],[(1000000,1000000)],[.own 1000000 0,.val (.int .u8 58)],[(1000000,137,qc17 o2.2)],vb r3.1,[(1000000,137,qc17 r3.2)]⟩),((o2.2.f_bad == false) = false → KeepOb [(1000000,137,qc17 o2.2)] ⟨[(1000000,1000000)],[(1000000,1000000)],[.own 1000000 0,.val (.int .u8 58)],[(1000000,137,qc17 o2.2)],vb r3.1,[(1000000,137,qc17 r3.2)]⟩)] (AllP.cons (fun hg=>⟨(ok_flow_reader_take__o0 n 58 o2.2 _ (if_t hg hr3)),by kernel_rfl,by kernel_rfl⟩) (AllP.cons (fun hg=>by cases if_f hg hr3; exact keepOb (by kernel_rfl)) AllP.nil)) ?_
 refine To.thenN (Wp.seq (rg [2] [1000000] [(2,.str o2.1)] [(1000000,137,[.str r3.2.f_s,vi r3.2.f_at,vb (bif o2.2.f_bad then true else (!r3.1))])] (To.thenN (Wp.ret ?_))))
 cases h
 exact To.doneB hΓ [1000000] (by kernel_rfl) (by kernel_rfl)
mutual
def flow_reader_pairs__o0_g1_e (R_flow_reader_value__o0:S_flow_reader → Option (S_api_Node × Bool × S_flow_reader)) (n:Nat):Nat → S_api_Node → S_flow_reader → Option (S_api_Node × S_flow_reader)
 | 0,_,_=>none
 | k + 1,b2,b1000000=>(flow_reader_take__o0 n 125 (S_flow_reader.mk b1000000.f_s (IntKind.wrap .i64 (b1000000.f_at + 1)) b1000000.f_bad)).bind fun r1 =>
 if r1.1 = true then (some ((S_api_Node.mk 3 [] [] []),r1.2))
 else ((flow_reader_key__o0 n r1.2).bind fun r2 =>
 lett ((bif r2.2.f_bad then true else (decide (((mlook (mput ([]:List (MK × Int)) (.inl r2.1) (IntKind.wrap .i64 (((mlook ([]:List (MK × Int)) (.inl r2.1)).getD 0) + 1))) (.inl r2.1)).getD 0) > 1))):Bool) fun x3 =>
 if x3 = true then (some ((S_api_Node.mk 3 [] [] []),(S_flow_reader.mk r2.2.f_s r2.2.f_at true)))
 else ((R_flow_reader_value__o0 r2.2).bind fun r4 =>
 if (decide ((List.length ([]:List (List UInt8)) + List.length ([r2.1]:List (List UInt8))) * (16 + 1) ≤ limit)) = true then (if (decide ((List.length ([]:List (S_api_Node)) + List.length ([r4.1]:List (S_api_Node))) * (72 + 1) ≤ limit)) = true then (if r4.2.2.f_bad = true then (some ((S_api_Node.mk 3 [] (([]:List (List UInt8)) ++ ([r2.1]:List (List UInt8))) (([]:List (S_api_Node)) ++ ([r4.1]:List (S_api_Node)))),r4.2.2))
 else ((flow_reader_take__o0 n 44 r4.2.2).bind fun r5 =>
 if r5.1 = true then (flow_reader_pairs__o0_g1_0 R_flow_reader_value__o0 n k b2 (S_api_Node.mk 3 [] (([]:List (List UInt8)) ++ ([r2.1]:List (List UInt8))) (([]:List (S_api_Node)) ++ ([r4.1]:List (S_api_Node)))) (mput ([]:List (MK × Int)) (.inl r2.1) (IntKind.wrap .i64 (((mlook ([]:List (MK × Int)) (.inl r2.1)).getD 0) + 1))) r5.2)
 else ((flow_reader_take__o0 n 125 r5.2).bind fun r6 =>
 some ((S_api_Node.mk 3 [] (([]:List (List UInt8)) ++ ([r2.1]:List (List UInt8))) (([]:List (S_api_Node)) ++ ([r4.1]:List (S_api_Node)))),(S_flow_reader.mk r6.2.f_s r6.2.f_at (!r6.1)))))) else none) else none))
def flow_reader_pairs__o0_g1_0 (R_flow_reader_value__o0:S_flow_reader → Option (S_api_Node × Bool × S_flow_reader)) (n:Nat):Nat → S_api_Node → S_api_Node → (List (MK × Int)) → S_flow_reader → Option (S_api_Node × S_flow_reader)
 | 0,_,_,_,_=>none
 | k + 1,b2,b3,b9,b1000000=>(flow_reader_key__o0 n b1000000).bind fun r1 =>
 lett ((bif r1.2.f_bad then true else (decide (((mlook (mput b9 (.inl r1.1) (IntKind.wrap .i64 (((mlook b9 (.inl r1.1)).getD 0) + 1))) (.inl r1.1)).getD 0) > 1))):Bool) fun x2 =>
 if x2 = true then (some (b3,(S_flow_reader.mk r1.2.f_s r1.2.f_at true)))
 else ((R_flow_reader_value__o0 r1.2).bind fun r3 =>
 if (decide ((List.length b3.f_Keys + List.length ([r1.1]:List (List UInt8))) * (16 + 1) ≤ limit)) = true then (if (decide ((List.length b3.f_Kids + List.length ([r3.1]:List (S_api_Node))) * (72 + 1) ≤ limit)) = true then (if r3.2.2.f_bad = true then (some ((S_api_Node.mk b3.f_Kind b3.f_Text (b3.f_Keys ++ ([r1.1]:List (List UInt8))) (b3.f_Kids ++ ([r3.1]:List (S_api_Node)))),r3.2.2))
 else ((flow_reader_take__o0 n 44 r3.2.2).bind fun r4 =>
 if r4.1 = true then (flow_reader_pairs__o0_g1_0 R_flow_reader_value__o0 n k b2 (S_api_Node.mk b3.f_Kind b3.f_Text (b3.f_Keys ++ ([r1.1]:List (List UInt8))) (b3.f_Kids ++ ([r3.1]:List (S_api_Node)))) (mput b9 (.inl r1.1) (IntKind.wrap .i64 (((mlook b9 (.inl r1.1)).getD 0) + 1))) r4.2)
 else ((flow_reader_take__o0 n 125 r4.2).bind fun r5 =>
 some ((S_api_Node.mk b3.f_Kind b3.f_Text (b3.f_Keys ++ ([r1.1]:List (List UInt8))) (b3.f_Kids ++ ([r3.1]:List (S_api_Node)))),(S_flow_reader.mk r5.2.f_s r5.2.f_at (!r5.1)))))) else none) else none)
end
end Go.Proofs.YtefojkdckfidcaaGreatDoor.M
