import Derived.Test.YtefojkdckfidcaaDoorQM10c
set_option linter.all false
namespace Go.Proofs.YtefojkdckfidcaaDoor.M
open Go.RowKit Go.Proofs.YtefojkdckfidcaaDoor.RX
set_option maxRecDepth 100000
theorem ok_block_reader_pairs__o0_l1 (R_block_reader_block__o0_s2 : S_block_reader → Option (S_api_Node × S_block_reader)) (hR_block_reader_block__o0_s2 : hR11 R_block_reader_block__o0_s2) (n : Nat) (v1 : Int) {F0 : Fz} {w0 : Pt Tryd.prog} {Q : Exit → Act → World → Prop} (k : Nat) : ∀ (b4 : S_api_Node) (b5 : S_api_Node) (b1000000 : S_block_reader) (o : Sum (S_api_Node × S_api_Node × S_block_reader) (S_api_Node × S_block_reader)), block_reader_pairs__o0_l1 R_block_reader_block__o0_s2 n v1 k b4 b5 b1000000 = some o → (Sum.elim (fun s => To 114 F0 w0 [(4, .own 4 0), (5, .own 5 0)] [(4, 28, qc9 s.1), (5, 28, qc20 4302 4303 s.2.1), (4302, 9, [rc21 s.2.1.f_Keys]), (4303, 28, [rc12 s.2.1.f_Kids]), (504000, 44, [rc5 s.2.2.f_l]), (1000000, 40, qc10 504000 s.2.2)] (.exit 0) Q) (fun s => To 114 F0 w0 [(4, .own 4 0)] [(4, 28, qc9 s.1), (504000, 44, [rc5 s.2.f_l]), (1000000, 40, qc10 504000 s.2)] .ret Q)) o → WL Tryd.prog 114 F0 w0 [(0, .own 1000000 0), (1, vi v1), (4, .own 4 0), (5, .own 5 0)] [(4, 28, qc9 b4), (5, 28, qc20 4302 4303 b5), (4302, 9, [rc21 b5.f_Keys]), (4303, 28, [rc12 b5.f_Kids]), (504000, 44, [rc5 b1000000.f_l]), (1000000, 40, qc10 504000 b1000000)] (cI (cI (cA (cB (cB (cI (cB (cF Tryd.f20)))))))) Q := by
 induction k with
 | zero => intro b4 b5 b1000000 o h; cases h
 | succ k ih =>
  intro b4 b5 b1000000 o h hQ
  rw [block_reader_pairs__o0_l1] at h
  refine WL.round (Wp.seq (Wp.seq ?_))
  refine Wp.regionD hm hΓ [] [0, 1, 4, 5, 28] [4, 5, 4302, 4303, 504000, 1000000] (K' := [(0, .own 1000000 0), (1, vi v1), (4, .own 4 0), (5, .own 5 0), (28, vb (bif (b1000000.f_e == 0) then (decide (b1000000.f_at < (List.length b1000000.f_l : Int))) else false))]) (L' := [(4, 28, qc9 b4), (5, 28, qc20 4302 4303 b5), (4302, 9, [rc21 b5.f_Keys]), (4303, 28, [rc12 b5.f_Kids]), (504000, 44, [rc5 b1000000.f_l]), (1000000, 40, qc10 504000 b1000000)]) (ob := []) (by kernel_rfl) AllP.nil ?_
  refine To.thenN ?_
  refine cn h (fun h => ?_) (fun h => ?_)
  ·refine Wp.skip (To.thenN (Wp.block (Wp.seq ?_)))
   obtain ⟨hc9, h⟩ := chk_of h
   refine Wp.regionD hm hΓ [] [0, 1, 4, 5, 6] [4, 5, 6, 4302, 4303, 504000, 1000000] (K' := [(0, .own 1000000 0), (1, vi v1), (4, .own 4 0), (5, .own 5 0), (6, .own 6 0)]) (L' := [(4, 28, qc9 b4), (5, 28, qc20 4302 4303 b5), (6, 44, [vi (((b1000000.f_l)[Int.toNat b1000000.f_at]?.getD zx4).f_No), vi (((b1000000.f_l)[Int.toNat b1000000.f_at]?.getD zx4).f_Indent), .str (((b1000000.f_l)[Int.toNat b1000000.f_at]?.getD zx4).f_Text)]), (4302, 9, [rc21 b5.f_Keys]), (4303, 28, [rc12 b5.f_Kids]), (504000, 44, [rc5 b1000000.f_l]), (1000000, 40, qc10 504000 b1000000)]) (ob := [(decide (0 ≤ b1000000.f_at ∧ b1000000.f_at < (List.length b1000000.f_l : Int))) = true, (decide (0 ≤ b1000000.f_at ∧ b1000000.f_at < (List.length b1000000.f_l : Int))) = true]) (by kernel_rfl) (AllP.cons hc9 (AllP.cons hc9 AllP.nil)) ?_
   refine To.thenN (Wp.seq ?_)
   obtain ⟨r1, hr1, h⟩ := bind_of h
   refine rc [] 2 [0, 1, 4, 5, 6, 7, 8, 9] [4, 5, 6, 4302, 4303, 504000, 1000000] [(0, .own 1000000 0), (1, vi v1), (4, .own 4 0), (5, .own 5 0), (6, .own 6 0), (7, .str r1.1), (8, .str r1.2.1), (9, vi r1.2.2)] [(4, 28, qc9 b4), (5, 28, qc20 4302 4303 b5), (6, 44, [vi (((b1000000.f_l)[Int.toNat b1000000.f_at]?.getD zx4).f_No), vi (((b1000000.f_l)[Int.toNat b1000000.f_at]?.getD zx4).f_Indent), .str (((b1000000.f_l)[Int.toNat b1000000.f_at]?.getD zx4).f_Text)]), (4302, 9, [rc21 b5.f_Keys]), (4303, 28, [rc12 b5.f_Kids]), (504000, 44, [rc5 b1000000.f_l]), (1000000, 40, qc10 504000 b1000000)] (ok_block_Entry n (((b1000000.f_l)[Int.toNat b1000000.f_at]?.getD zx4).f_Text) _ hr1) ?_
   refine To.thenN (Wp.seq (Wp.block (Wp.seq ?_)))
   obtain ⟨r2, hr2, h⟩ := bind_of h
   obtain ⟨x3, hx3, h⟩ := lett_of h
   refine rr [] [(19, vb r2)] [] [0, 1, 4, 5, 6, 7, 8, 9, 46] [4, 5, 6, 4302, 4303, 504000, 1000000] [(0, .own 1000000 0), (1, vi v1), (4, .own 4 0), (5, .own 5 0), (6, .own 6 0), (7, .str r1.1), (8, .str r1.2.1), (9, vi r1.2.2), (46, vb (bif (decide ((((b1000000.f_l)[Int.toNat b1000000.f_at]?.getD zx4).f_Indent) > v1)) then true else (bif ((((b1000000.f_l)[Int.toNat b1000000.f_at]?.getD zx4).f_Indent) == v1) then (bif (decide (r1.2.2 < 0)) then true else (bif (decide (r1.2.2 > 0)) then r2 else false)) else false)))] [(4, 28, qc9 b4), (5, 28, qc20 4302 4303 b5), (6, 44, [vi (((b1000000.f_l)[Int.toNat b1000000.f_at]?.getD zx4).f_No), vi (((b1000000.f_l)[Int.toNat b1000000.f_at]?.getD zx4).f_Indent), .str (((b1000000.f_l)[Int.toNat b1000000.f_at]?.getD zx4).f_Text)]), (4302, 9, [rc21 b5.f_Keys]), (4303, 28, [rc12 b5.f_Kids]), (504000, 44, [rc5 b1000000.f_l]), (1000000, 40, qc10 504000 b1000000)] [((((decide (r1.2.2 > 0)) == true) && (((decide (r1.2.2 < 0)) == false) && ((((((b1000000.f_l)[Int.toNat b1000000.f_at]?.getD zx4).f_Indent) == v1) == true) && ((decide ((((b1000000.f_l)[Int.toNat b1000000.f_at]?.getD zx4).f_Indent) > v1)) == false)))) = true → CX Tryd.prog 35 [ls b5.f_Keys, .str r1.1] (vb r2))] (AllP.cons (fun hg => cx (ok_name_In n b5.f_Keys r1.1 _ (if_t hg hr2))) AllP.nil) ?_
   refine To.eq (K' := [(0, .own 1000000 0), (1, vi v1), (4, .own 4 0), (5, .own 5 0), (6, .own 6 0), (7, .str r1.1), (8, .str r1.2.1), (9, vi r1.2.2), (46, vb x3)]) (L' := [(4, 28, qc9 b4), (5, 28, qc20 4302 4303 b5), (6, 44, [vi (((b1000000.f_l)[Int.toNat b1000000.f_at]?.getD zx4).f_No), vi (((b1000000.f_l)[Int.toNat b1000000.f_at]?.getD zx4).f_Indent), .str (((b1000000.f_l)[Int.toNat b1000000.f_at]?.getD zx4).f_Text)]), (4302, 9, [rc21 b5.f_Keys]), (4303, 28, [rc12 b5.f_Kids]), (504000, 44, [rc5 b1000000.f_l]), (1000000, 40, qc10 504000 b1000000)]) (by cases hx3; rfl) (by cases hx3; rfl) ?_
   refine To.thenN ?_
   refine cn h (fun h => ?_) (fun h => ?_)
   ·refine Wp.seq ?_
    obtain ⟨r4, hr4, h⟩ := lett_of h
    refine rb [] 3 ⟨[(1000000, 1000000), (1010000, 504000)], [(200, 504000), (1000000, 1000000)], [.own 1000000 0, vi (((b1000000.f_l)[Int.toNat b1000000.f_at]?.getD zx4).f_No), vi 3], [(1000000, 40, qc10 1010000 b1000000), (1010000, 44, [rc5 b1000000.f_l])], .agg (qc9 r4.1), [(200, 44, [rc5 r4.2.f_l]), (1000000, 40, qc10 200 r4.2)]⟩ [4] [4, 504000, 1000000] [(4, .own 4 0)] [(4, 28, qc9 r4.1), (504000, 44, [rc5 r4.2.f_l]), (1000000, 40, qc10 504000 r4.2)] ((ok_block_reader_fail__o0_s2 (((b1000000.f_l)[Int.toNat b1000000.f_at]?.getD zx4).f_No) 3 b1000000 _ hr4)) ?_
    refine To.thenN (Wp.ret (To.blockR (To.thenR (To.blockR (To.thenR ?_)))))
    refine kt [4] [4, 504000, 1000000] [(4, .own 4 0)] [(4, 28, qc9 r4.1), (504000, 44, [rc5 r4.2.f_l]), (1000000, 40, qc10 504000 r4.2)] ?_
    cases h
    exact hQ
   ·refine Wp.seq ?_
    obtain ⟨x5, hx5, h⟩ := lett_of h
    refine rg [0, 1, 4, 5, 6, 7, 8, 75] [4, 5, 6, 4302, 4303, 504000, 1000000] [(0, .own 1000000 0), (1, vi v1), (4, .own 4 0), (5, .own 5 0), (6, .own 6 0), (7, .str r1.1), (8, .str r1.2.1), (75, vb (bif (decide ((((b1000000.f_l)[Int.toNat b1000000.f_at]?.getD zx4).f_Indent) < v1)) then true else (r1.2.2 == 0)))] [(4, 28, qc9 b4), (5, 28, qc20 4302 4303 b5), (6, 44, [vi (((b1000000.f_l)[Int.toNat b1000000.f_at]?.getD zx4).f_No), vi (((b1000000.f_l)[Int.toNat b1000000.f_at]?.getD zx4).f_Indent), .str (((b1000000.f_l)[Int.toNat b1000000.f_at]?.getD zx4).f_Text)]), (4302, 9, [rc21 b5.f_Keys]), (4303, 28, [rc12 b5.f_Kids]), (504000, 44, [rc5 b1000000.f_l]), (1000000, 40, qc10 504000 b1000000)] ?_
    refine To.eq (K' := [(0, .own 1000000 0), (1, vi v1), (4, .own 4 0), (5, .own 5 0), (6, .own 6 0), (7, .str r1.1), (8, .str r1.2.1), (75, vb x5)]) (L' := [(4, 28, qc9 b4), (5, 28, qc20 4302 4303 b5), (6, 44, [vi (((b1000000.f_l)[Int.toNat b1000000.f_at]?.getD zx4).f_No), vi (((b1000000.f_l)[Int.toNat b1000000.f_at]?.getD zx4).f_Indent), .str (((b1000000.f_l)[Int.toNat b1000000.f_at]?.getD zx4).f_Text)]), (4302, 9, [rc21 b5.f_Keys]), (4303, 28, [rc12 b5.f_Kids]), (504000, 44, [rc5 b1000000.f_l]), (1000000, 40, qc10 504000 b1000000)]) (by cases hx5; rfl) (by cases hx5; rfl) ?_
    refine To.thenN ?_
    refine cn h (fun h => ?_) (fun h => ?_)
    ·refine Wp.exit (To.blockO (by decide) (To.thenX (To.blockO (by decide) (To.thenX ?_))))
     refine kt [4, 5] [4, 5, 4302, 4303, 504000, 1000000] [(4, .own 4 0), (5, .own 5 0)] [(4, 28, qc9 b4), (5, 28, qc20 4302 4303 b5), (4302, 9, [rc21 b5.f_Keys]), (4303, 28, [rc12 b5.f_Kids]), (504000, 44, [rc5 b1000000.f_l]), (1000000, 40, qc10 504000 b1000000)] ?_
     cases h
     exact hQ
    ·refine Wp.skip (To.blockN (To.thenN (Wp.seq ?_)))
     refine rg [0, 1, 4, 5, 6, 7, 8] [4, 5, 6, 4302, 4303, 504000, 1000000] [(0, .own 1000000 0), (1, vi v1), (4, .own 4 0), (5, .own 5 0), (6, .own 6 0), (7, .str r1.1), (8, .str r1.2.1)] [(4, 28, qc9 b4), (5, 28, qc20 4302 4303 b5), (6, 44, [vi (((b1000000.f_l)[Int.toNat b1000000.f_at]?.getD zx4).f_No), vi (((b1000000.f_l)[Int.toNat b1000000.f_at]?.getD zx4).f_Indent), .str (((b1000000.f_l)[Int.toNat b1000000.f_at]?.getD zx4).f_Text)]), (4302, 9, [rc21 b5.f_Keys]), (4303, 28, [rc12 b5.f_Kids]), (504000, 44, [rc5 b1000000.f_l]), (1000000, 40, [.row 504000, vi (IntKind.wrap .i64 (b1000000.f_at + 1)), vi b1000000.f_no, vi b1000000.f_e])] ?_
     refine To.thenN (Wp.seq ?_)
     refine rg [0, 1, 4, 5, 6, 7, 8, 10] [4, 5, 6, 10, 4302, 4303, 504000, 1000000] [(0, .own 1000000 0), (1, vi v1), (4, .own 4 0), (5, .own 5 0), (6, .own 6 0), (7, .str r1.1), (8, .str r1.2.1), (10, .own 10 0)] [(4, 28, qc9 b4), (5, 28, qc20 4302 4303 b5), (6, 44, [vi (((b1000000.f_l)[Int.toNat b1000000.f_at]?.getD zx4).f_No), vi (((b1000000.f_l)[Int.toNat b1000000.f_at]?.getD zx4).f_Indent), .str (((b1000000.f_l)[Int.toNat b1000000.f_at]?.getD zx4).f_Text)]), (10, 28, [vi 0, .str [], .val (.slice none 0 0), .val (.slice none 0 0)]), (4302, 9, [rc21 b5.f_Keys]), (4303, 28, [rc12 b5.f_Kids]), (504000, 44, [rc5 b1000000.f_l]), (1000000, 40, [.row 504000, vi (IntKind.wrap .i64 (b1000000.f_at + 1)), vi b1000000.f_no, vi b1000000.f_e])] ?_
     refine To.thenN (Wp.seq (Wp.seq ?_))
     refine rg [0, 1, 4, 5, 6, 7, 8, 10, 92] [4, 5, 6, 10, 4302, 4303, 504000, 1000000] [(0, .own 1000000 0), (1, vi v1), (4, .own 4 0), (5, .own 5 0), (6, .own 6 0), (7, .str r1.1), (8, .str r1.2.1), (10, .own 10 0), (92, vb (!(r1.2.1 == [])))] [(4, 28, qc9 b4), (5, 28, qc20 4302 4303 b5), (6, 44, [vi (((b1000000.f_l)[Int.toNat b1000000.f_at]?.getD zx4).f_No), vi (((b1000000.f_l)[Int.toNat b1000000.f_at]?.getD zx4).f_Indent), .str (((b1000000.f_l)[Int.toNat b1000000.f_at]?.getD zx4).f_Text)]), (10, 28, [vi 0, .str [], .val (.slice none 0 0), .val (.slice none 0 0)]), (4302, 9, [rc21 b5.f_Keys]), (4303, 28, [rc12 b5.f_Kids]), (504000, 44, [rc5 b1000000.f_l]), (1000000, 40, [.row 504000, vi (IntKind.wrap .i64 (b1000000.f_at + 1)), vi b1000000.f_no, vi b1000000.f_e])] ?_
     refine To.thenN ?_
     obtain ⟨o6, ho6, h⟩ := bind_of h
     refine kw [0, 1, 4, 5, 6, 7, 8, 10, 92] [4, 5, 6, 10, 4302, 4303, 504000, 1000000] [(0, .own 1000000 0), (1, vi v1), (4, .own 4 0), (5, .own 5 0), (6, .own 6 0), (7, .str r1.1), (8, .str r1.2.1), (10, .own 10 0), (92, vb (!(r1.2.1 == [])))] [(4, 28, qc9 b4), (5, 28, qc20 4302 4303 b5), (6, 44, [vi (((b1000000.f_l)[Int.toNat b1000000.f_at]?.getD zx4).f_No), vi (((b1000000.f_l)[Int.toNat b1000000.f_at]?.getD zx4).f_Indent), .str (((b1000000.f_l)[Int.toNat b1000000.f_at]?.getD zx4).f_Text)]), (10, 28, [vi 0, .str [], .val (.slice none 0 0), .val (.slice none 0 0)]), (4302, 9, [rc21 b5.f_Keys]), (4303, 28, [rc12 b5.f_Kids]), (504000, 44, [rc5 b1000000.f_l]), (1000000, 40, [.row 504000, vi (IntKind.wrap .i64 (b1000000.f_at + 1)), vi b1000000.f_no, vi b1000000.f_e])] ?_
     refine Wp.weak (K' := [(0, .own 1000000 0), (1, vi v1), (4, .own 4 0), (5, .own 5 0), (6, .own 6 0), (7, .str r1.1), (8, .str r1.2.1), (10, .own 10 0), (92, vb (!(r1.2.1 == [])))]) (L' := [(4, 28, qc9 b4), (5, 28, qc20 4302 4303 b5), (6, 44, [vi (((b1000000.f_l)[Int.toNat b1000000.f_at]?.getD zx4).f_No), vi (((b1000000.f_l)[Int.toNat b1000000.f_at]?.getD zx4).f_Indent), .str (((b1000000.f_l)[Int.toNat b1000000.f_at]?.getD zx4).f_Text)]), (10, 28, [vi 0, .str [], ls [], tn8 []]), (4302, 9, [rc21 b5.f_Keys]), (4303, 28, [rc12 b5.f_Kids]), (504000, 44, [rc5 b1000000.f_l]), (1000000, 40, [.row 504000, vi (IntKind.wrap .i64 (b1000000.f_at + 1)), vi b1000000.f_no, vi b1000000.f_e])]) (.cons (.refl _) (.cons (.refl _) (.cons (.refl _) (.cons (.refl _) (.cons (.refl _) (.cons (.refl _) (.cons (.refl _) (.cons (.refl _) (.cons (.refl _) .nil))))))))) (.cons (.cons (.refl _) (.cons (.refl _) (.cons (.refl _) (.cons (.refl _) .nil)))) (.cons (.cons (.refl _) (.cons (.refl _) (.cons (.refl _) (.cons (.refl _) .nil)))) (.cons (.cons (.refl _) (.cons (.refl _) (.cons (.refl _) .nil))) (.cons (.cons (.refl _) (.cons (.refl _) (.cons (.zero _ _) (.cons (.zeroT _ _ _) .nil)))) (.cons (.cons (.refl _) .nil) (.cons (.cons (.refl _) .nil) (.cons (.cons (.refl _) .nil) (.cons (.cons (.refl _) (.cons (.refl _) (.cons (.refl _) (.cons (.refl _) .nil)))) .nil)))))))) ?_
     refine ok_block_reader_pairs__o0_j2 R_block_reader_block__o0_s2 hR_block_reader_block__o0_s2 n v1 r1.1 r1.2.1 (!(r1.2.1 == [])) b4 b5 ((b1000000.f_l)[Int.toNat b1000000.f_at]?.getD zx4) zx7 (S_block_reader.mk b1000000.f_l (IntKind.wrap .i64 (b1000000.f_at + 1)) b1000000.f_no b1000000.f_e) o6 ho6 ?_
     refine To.thenN ?_
     obtain ⟨hc7, h⟩ := chk_of h
     obtain ⟨hc8, h⟩ := chk_of h
     refine Wp.regionO hm hΓ [] [(3, ls [r1.1]), (4, ls (b5.f_Keys ++ ([r1.1] : List (List UInt8)))), (8, rs13 [o6.1]), (9, rs13 (b5.f_Kids ++ ([o6.1] : List (S_api_Node))))] [] [0, 1, 4, 5, 7, 10, 101, 102, 103, 104, 105, 106, 107, 108, 109, 110, 111, 112] [4, 5, 10, 104, 105, 109, 110, 4302, 4303, 504000, 1000000] [0, 1, 4, 5] [4, 5, 105, 110, 504000, 1000000] (K' := [(0, .own 1000000 0), (1, vi v1), (4, .own 4 0), (5, .own 5 0)]) (L' := [(4, 28, qc9 b4), (5, 28, qc20 105 110 b5), (105, 9, [rc21 (b5.f_Keys ++ ([r1.1] : List (List UInt8)))]), (110, 28, [rc12 (b5.f_Kids ++ ([o6.1] : List (S_api_Node)))]), (504000, 44, [rc5 o6.2.f_l]), (1000000, 40, qc10 504000 o6.2)]) (ob := [(MkOb 1 [.str r1.1] 1 (ls [r1.1]) ∧ GoodR (ls [r1.1])), (decide ((List.length b5.f_Keys + List.length ([r1.1] : List (List UInt8))) * (16 + 1) ≤ limit)) = true, (AppOb [] E_string b5.f_Keys (List.flatMap E_string ([r1.1] : List (List UInt8))) (List.length ([r1.1] : List (List UInt8))) (ls (b5.f_Keys ++ ([r1.1] : List (List UInt8)))) ∧ GoodR (ls (b5.f_Keys ++ ([r1.1] : List (List UInt8))))), (MkOb 4 (qc9 o6.1) 1 (rs13 [o6.1]) ∧ GoodR (rs13 [o6.1])), (decide ((List.length b5.f_Kids + List.length ([o6.1] : List (S_api_Node))) * (72 + 1) ≤ limit)) = true, (AppOb zx7 E_api_Node b5.f_Kids (List.flatMap E_api_Node ([o6.1] : List (S_api_Node))) (List.length ([o6.1] : List (S_api_Node))) (rs13 (b5.f_Kids ++ ([o6.1] : List (S_api_Node)))) ∧ GoodR (rs13 (b5.f_Kids ++ ([o6.1] : List (S_api_Node)))))]) (by kernel_rfl) (by kernel_rfl) (AllP.cons (mkOb (by kernel_rfl) rfl (by kernel_rfl) (good_E_string _)) (AllP.cons hc7 (AllP.cons (appOb rfl rfl (good_E_string _)) (AllP.cons (mkOb (by kernel_rfl) rfl (by kernel_rfl) (good_E_api_Node _)) (AllP.cons hc8 (AllP.cons (appOb rfl rfl (good_E_api_Node _)) AllP.nil)))))) ?_
     refine To.blockN ?_
     refine nt [0, 1, 4, 5] [4, 5, 105, 110, 504000, 1000000] [(105, 4302), (110, 4303)] [0, 1, 4, 5] [4, 5, 4302, 4303, 504000, 1000000] [(0, .own 1000000 0), (1, vi v1), (4, .own 4 0), (5, .own 5 0)] [(4, 28, qc9 b4), (5, 28, qc20 4302 4303 b5), (4302, 9, [rc21 (b5.f_Keys ++ ([r1.1] : List (List UInt8)))]), (4303, 28, [rc12 (b5.f_Kids ++ ([o6.1] : List (S_api_Node)))]), (504000, 44, [rc5 o6.2.f_l]), (1000000, 40, qc10 504000 o6.2)] ?_
     refine To.again ?_
     exact ih b4 (S_api_Node.mk b5.f_Kind b5.f_Text (b5.f_Keys ++ ([r1.1] : List (List UInt8))) (b5.f_Kids ++ ([o6.1] : List (S_api_Node)))) o6.2 _ h hQ
  ·refine Wp.exit (To.thenX (To.thenX ?_))
   refine kt [4, 5] [4, 5, 4302, 4303, 504000, 1000000] [(4, .own 4 0), (5, .own 5 0)] [(4, 28, qc9 b4), (5, 28, qc20 4302 4303 b5), (4302, 9, [rc21 b5.f_Keys]), (4303, 28, [rc12 b5.f_Kids]), (504000, 44, [rc5 b1000000.f_l]), (1000000, 40, qc10 504000 b1000000)] ?_
   cases h
   exact hQ
def block_reader_pairs__o0 (R_block_reader_block__o0_s2 : S_block_reader → Option (S_api_Node × S_block_reader)) (n : Nat) (a1 : Int) (h0 : S_block_reader) : Option (S_api_Node × S_block_reader) :=
 (block_reader_pairs__o0_l1 R_block_reader_block__o0_s2 n a1 n (S_api_Node.mk 0 [] [] []) (S_api_Node.mk 3 [] [] []) h0).bind fun o1 =>
 (Sum.elim (fun o1 => some (o1.2.1, o1.2.2)) (fun o1 => some (o1.1, o1.2))) o1
theorem ok_block_reader_pairs__o0 (R_block_reader_block__o0_s2 : S_block_reader → Option (S_api_Node × S_block_reader)) (hR_block_reader_block__o0_s2 : hR11 R_block_reader_block__o0_s2) (n : Nat) (a1 : Int) (h0 : S_block_reader) (r : S_api_Node × S_block_reader) (h : block_reader_pairs__o0 R_block_reader_block__o0_s2 n a1 h0 = some r) : CallsB Tryd.prog 20 [.own 1000000 0, vi a1] [(1000000, 40, qc10 1010000 h0), (1010000, 44, [rc5 h0.f_l])] (.agg (qc9 r.1)) [(200, 44, [rc5 r.2.f_l]), (1000000, 40, qc10 200 r.2)] := by
 unfold block_reader_pairs__o0 at h
 refine bo Tryd.f20 rfl fun F0 w0 => ?_
 refine nw [0, 1] [1000000, 1010000] [(1010000, 504000)] [0, 1] [504000, 1000000] [(0, .own 1000000 0), (1, vi a1)] [(504000, 44, [rc5 h0.f_l]), (1000000, 40, qc10 504000 h0)] ?_
 refine Wp.seq ?_
 refine rg [0, 1, 4] [4, 504000, 1000000] [(0, .own 1000000 0), (1, vi a1), (4, .own 4 0)] [(4, 28, [vi 0, .str [], .val (.slice none 0 0), .val (.slice none 0 0)]), (504000, 44, [rc5 h0.f_l]), (1000000, 40, qc10 504000 h0)] ?_
 refine To.thenN ?_
 refine Wp.scope ?_
 refine Wp.seq ?_
 refine rg [0, 1, 4, 5] [4, 5, 504000, 1000000] [(0, .own 1000000 0), (1, vi a1), (4, .own 4 0), (5, .own 5 0)] [(4, 28, [vi 0, .str [], .val (.slice none 0 0), .val (.slice none 0 0)]), (5, 28, [vi 3, .str [], .val (.slice none 0 0), .val (.slice none 0 0)]), (504000, 44, [rc5 h0.f_l]), (1000000, 40, qc10 504000 h0)] ?_
 refine To.thenN (Wp.seq ?_)
 refine Wp.label ?_
 refine To.thenN (Wp.seq (Wp.block ?_))
 obtain ⟨o1, ho1, h⟩ := bind_of h
 refine kw [0, 1, 4, 5] [4, 5, 504000, 1000000] [(0, .own 1000000 0), (1, vi a1), (4, .own 4 0), (5, .own 5 0)] [(4, 28, [vi 0, .str [], .val (.slice none 0 0), .val (.slice none 0 0)]), (5, 28, [vi 3, .str [], .val (.slice none 0 0), .val (.slice none 0 0)]), (504000, 44, [rc5 h0.f_l]), (1000000, 40, qc10 504000 h0)] ?_
 refine Wp.pre (St.vacantB 5 2 4302 9 (good_E_string _) (by decide) (by kernel_rfl) (L' := [(4, 28, [vi 0, .str [], .val (.slice none 0 0), .val (.slice none 0 0)]), (5, 28, [vi 3, .str [], .row 4302, .val (.slice none 0 0)]), (504000, 44, [rc5 h0.f_l]), (1000000, 40, qc10 504000 h0)]) (by kernel_rfl)) ?_
 refine kw [0, 1, 4, 5] [4, 5, 4302, 504000, 1000000] [(0, .own 1000000 0), (1, vi a1), (4, .own 4 0), (5, .own 5 0)] [(4, 28, [vi 0, .str [], .val (.slice none 0 0), .val (.slice none 0 0)]), (5, 28, [vi 3, .str [], .row 4302, .val (.slice none 0 0)]), (4302, 9, [rc19 []]), (504000, 44, [rc5 h0.f_l]), (1000000, 40, qc10 504000 h0)] ?_
 refine Wp.pre (St.settle (ks := [4302]) (kk := [0, 1, 4, 5]) (kl := [4, 5, 4302, 504000, 1000000]) (K' := [(0, .own 1000000 0), (1, vi a1), (4, .own 4 0), (5, .own 5 0)]) (L' := [(4, 28, [vi 0, .str [], .val (.slice none 0 0), .val (.slice none 0 0)]), (5, 28, [vi 3, .str [], .row 4302, .val (.slice none 0 0)]), (4302, 9, [rc21 []]), (504000, 44, [rc5 h0.f_l]), (1000000, 40, qc10 504000 h0)]) (by kernel_rfl)) ?_
 refine Wp.pre (St.vacantB 5 3 4303 28 (good_E_api_Node _) (by decide) (by kernel_rfl) (L' := [(4, 28, [vi 0, .str [], .val (.slice none 0 0), .val (.slice none 0 0)]), (5, 28, [vi 3, .str [], .row 4302, .row 4303]), (4302, 9, [rc21 []]), (504000, 44, [rc5 h0.f_l]), (1000000, 40, qc10 504000 h0)]) (by kernel_rfl)) ?_
 refine kw [0, 1, 4, 5] [4, 5, 4302, 4303, 504000, 1000000] [(0, .own 1000000 0), (1, vi a1), (4, .own 4 0), (5, .own 5 0)] [(4, 28, [vi 0, .str [], .val (.slice none 0 0), .val (.slice none 0 0)]), (5, 28, [vi 3, .str [], .row 4302, .row 4303]), (4302, 9, [rc21 []]), (4303, 28, [rc12 []]), (504000, 44, [rc5 h0.f_l]), (1000000, 40, qc10 504000 h0)] ?_
 refine Wp.weak (K' := [(0, .own 1000000 0), (1, vi a1), (4, .own 4 0), (5, .own 5 0)]) (L' := [(4, 28, [vi 0, .str [], ls [], tn8 []]), (5, 28, [vi 3, .str [], .row 4302, .row 4303]), (4302, 9, [rc21 []]), (4303, 28, [rc12 []]), (504000, 44, [rc5 h0.f_l]), (1000000, 40, qc10 504000 h0)]) (.cons (.refl _) (.cons (.refl _) (.cons (.refl _) (.cons (.refl _) .nil)))) (.cons (.cons (.refl _) (.cons (.refl _) (.cons (.zero _ _) (.cons (.zeroT _ _ _) .nil)))) (.cons (.cons (.refl _) (.cons (.refl _) (.cons (.refl _) (.cons (.refl _) .nil)))) (.cons (.cons (.refl _) .nil) (.cons (.cons (.refl _) .nil) (.cons (.cons (.refl _) .nil) (.cons (.cons (.refl _) (.cons (.refl _) (.cons (.refl _) (.cons (.refl _) .nil)))) .nil)))))) ?_
 refine Wp.loopL ?_
 refine ok_block_reader_pairs__o0_l1 R_block_reader_block__o0_s2 hR_block_reader_block__o0_s2 n a1 n zx7 (S_api_Node.mk 3 [] [] []) h0 o1 ho1 ?_
 rcases o1 with o1 | o1
 ·replace h := sum_l h
  refine To.blockX (To.thenN (Wp.seq ?_))
  refine rg [4] [4, 4302, 4303, 504000, 1000000] [(4, .own 4 0)] [(4, 28, qc20 4302 4303 o1.2.1), (4302, 9, [rc21 o1.2.1.f_Keys]), (4303, 28, [rc12 o1.2.1.f_Kids]), (504000, 44, [rc5 o1.2.2.f_l]), (1000000, 40, qc10 504000 o1.2.2)] ?_
  refine To.thenN (Wp.ret ?_)
  refine To.scope (.inr (.inl rfl)) ?_
  refine kt [4] [4, 4302, 4303, 504000, 1000000] [(4, .own 4 0)] [(4, 28, qc20 4302 4303 o1.2.1), (4302, 9, [rc21 o1.2.1.f_Keys]), (4303, 28, [rc12 o1.2.1.f_Kids]), (504000, 44, [rc5 o1.2.2.f_l]), (1000000, 40, qc10 504000 o1.2.2)] ?_
  refine To.pre (St.settle (ks := [4303]) (kk := [4]) (kl := [4, 4302, 4303, 504000, 1000000]) (K' := [(4, .own 4 0)]) (L' := [(4, 28, qc20 4302 4303 o1.2.1), (4302, 9, [rc21 o1.2.1.f_Keys]), (4303, 28, [rc15 o1.2.1.f_Kids]), (504000, 44, [rc5 o1.2.2.f_l]), (1000000, 40, qc10 504000 o1.2.2)]) (by kernel_rfl)) ?_
  refine To.pre (St.sealB [4] (L' := [(4, 28, qc16 o1.2.1), (4302, 9, [rc21 o1.2.1.f_Keys]), (4303, 28, [rc15 o1.2.1.f_Kids]), (504000, 44, [rc5 o1.2.2.f_l]), (1000000, 40, qc10 504000 o1.2.2)]) (by kernel_rfl)) ?_
  refine To.weak (K' := [(4, .own 4 0)]) (L' := [(4, 28, qc9 o1.2.1), (4302, 9, [rc21 o1.2.1.f_Keys]), (4303, 28, [rc15 o1.2.1.f_Kids]), (504000, 44, [rc5 o1.2.2.f_l]), (1000000, 40, qc10 504000 o1.2.2)]) (.cons (.refl _) .nil) (.cons (.cons (.refl _) (.cons (.refl _) (.cons (.refl _) (.cons (.close _ _ _ _) .nil)))) (.cons (.cons (.refl _) .nil) (.cons (.cons (.refl _) .nil) (.cons (.cons (.refl _) .nil) (.cons (.cons (.refl _) (.cons (.refl _) (.cons (.refl _) (.cons (.refl _) .nil)))) .nil))))) ?_
  refine nt [4] [4, 504000, 1000000] [(504000, 200)] [4] [4, 200, 1000000] [(4, .own 4 0)] [(4, 28, qc9 o1.2.1), (200, 44, [rc5 o1.2.2.f_l]), (1000000, 40, qc10 200 o1.2.2)] ?_
  cases h
  exact To.doneB hΓ [200, 1000000] (by kernel_rfl) (by kernel_rfl)
 ·replace h := sum_r h
  refine To.blockR (To.thenR ?_)
  refine To.scope (.inr (.inl rfl)) ?_
  refine nt [4] [4, 504000, 1000000] [(504000, 200)] [4] [4, 200, 1000000] [(4, .own 4 0)] [(4, 28, qc9 o1.1), (200, 44, [rc5 o1.2.f_l]), (1000000, 40, qc10 200 o1.2)] ?_
  cases h
  exact To.doneB hΓ [200, 1000000] (by kernel_rfl) (by kernel_rfl)
def block_reader_block__o0_s2_j1 (R_block_reader_block__o0_s2 : S_block_reader → Option (S_api_Node × S_block_reader)) (n : Nat) (v7 : Int) (b2 : S_api_Node) (b3 : S_line_Line) (b4 : S_api_Node) (b1000000 : S_block_reader) : Option (Sum (S_api_Node × S_api_Node × S_block_reader) (S_api_Node × S_block_reader)) :=
 if (block_Row b3.f_Text) = true then ((block_reader_row__o0_s2 R_block_reader_block__o0_s2 n b3.f_Indent b1000000).bind fun r2 =>
 some (.inl (b2, r2.1, r2.2)))
 else (if (decide (v7 > 0)) = true then ((block_reader_pairs__o0 R_block_reader_block__o0_s2 n b3.f_Indent b1000000).bind fun r3 =>
 some (.inl (b2, r3.1, r3.2)))
 else (if (decide (v7 < 0)) = true then (lett (block_reader_fail__o0_s2 b3.f_No 3 b1000000) fun r4 =>
 some (.inr (r4.1, r4.2)))
 else ((block_reader_value__o0 n b3.f_No b3.f_Text (S_block_reader.mk b1000000.f_l (IntKind.wrap .i64 (b1000000.f_at + 1)) b1000000.f_no b1000000.f_e)).bind fun r5 =>
 some (.inl (b2, r5.1, r5.2)))))
theorem ok_block_reader_block__o0_s2_j1 (R_block_reader_block__o0_s2 : S_block_reader → Option (S_api_Node × S_block_reader)) (hR_block_reader_block__o0_s2 : hR11 R_block_reader_block__o0_s2) (n : Nat) (v7 : Int) (b2 : S_api_Node) (b3 : S_line_Line) (b4 : S_api_Node) (b1000000 : S_block_reader) (o : Sum (S_api_Node × S_api_Node × S_block_reader) (S_api_Node × S_block_reader)) (h : block_reader_block__o0_s2_j1 R_block_reader_block__o0_s2 n v7 b2 b3 b4 b1000000 = some o) {F0 : Fz} {w0 : Pt Tryd.prog} {Q : Exit → Act → World → Prop} (hQ : (Sum.elim (fun s => To 61 F0 w0 [(2, .own 2 0), (4, .own 4 0)] [(2, 28, qc9 s.1), (4, 28, qc9 s.2.1), (504000, 44, [rc5 s.2.2.f_l]), (1000000, 40, qc10 504000 s.2.2)] .normal Q) (fun s => To 61 F0 w0 [(2, .own 2 0)] [(2, 28, qc9 s.1), (504000, 44, [rc5 s.2.f_l]), (1000000, 40, qc10 504000 s.2)] .ret Q)) o) : Wp Tryd.prog 61 F0 w0 [(0, .own 1000000 0), (2, .own 2 0), (3, .own 3 0), (4, .own 4 0), (7, vi v7)] [(2, 28, qc9 b2), (3, 44, qc3 b3), (4, 28, qc9 b4), (504000, 44, [rc5 b1000000.f_l]), (1000000, 40, qc10 504000 b1000000)] (cB (cA (cB (cB (cB (cF Tryd.f10)))))) Q := by
 unfold block_reader_block__o0_s2_j1 at h
 refine Wp.block (Wp.seq ?_)
 refine rc [] 2 [0, 2, 3, 4, 7, 38] [2, 3, 4, 504000, 1000000] [(0, .own 1000000 0), (2, .own 2 0), (3, .own 3 0), (4, .own 4 0), (7, vi v7), (38, vb (block_Row b3.f_Text))] [(2, 28, qc9 b2), (3, 44, qc3 b3), (4, 28, qc9 b4), (504000, 44, [rc5 b1000000.f_l]), (1000000, 40, qc10 504000 b1000000)] (ok_block_Row b3.f_Text _ rfl) ?_
 refine To.thenN ?_
 refine cn h (fun h => ?_) (fun h => ?_)
 ·obtain ⟨r2, hr2, h⟩ := bind_of h
  refine rb [] 3 ⟨[(1000000, 1000000), (1010000, 504000)], [(200, 504000), (1000000, 1000000)], [.own 1000000 0, vi b3.f_Indent], [(1000000, 40, qc10 1010000 b1000000), (1010000, 44, [rc5 b1000000.f_l])], .agg (qc9 r2.1), [(200, 44, [rc5 r2.2.f_l]), (1000000, 40, qc10 200 r2.2)]⟩ [2, 4] [2, 4, 504000, 1000000] [(2, .own 2 0), (4, .own 4 0)] [(2, 28, qc9 b2), (4, 28, qc9 r2.1), (504000, 44, [rc5 r2.2.f_l]), (1000000, 40, qc10 504000 r2.2)] ((ok_block_reader_row__o0_s2 R_block_reader_block__o0_s2 hR_block_reader_block__o0_s2 n b3.f_Indent b1000000 _ hr2)) ?_
  refine To.blockN ?_
  refine kt [2, 4] [2, 4, 504000, 1000000] [(2, .own 2 0), (4, .own 4 0)] [(2, 28, qc9 b2), (4, 28, qc9 r2.1), (504000, 44, [rc5 r2.2.f_l]), (1000000, 40, qc10 504000 r2.2)] ?_
  cases h
  exact hQ
 ·refine Wp.seq ?_
  refine rg [0, 2, 3, 4, 7, 46] [2, 3, 4, 504000, 1000000] [(0, .own 1000000 0), (2, .own 2 0), (3, .own 3 0), (4, .own 4 0), (7, vi v7), (46, vb (decide (v7 > 0)))] [(2, 28, qc9 b2), (3, 44, qc3 b3), (4, 28, qc9 b4), (504000, 44, [rc5 b1000000.f_l]), (1000000, 40, qc10 504000 b1000000)] ?_
  refine To.thenN ?_
  refine cn h (fun h => ?_) (fun h => ?_)
  ·obtain ⟨r3, hr3, h⟩ := bind_of h
   refine rb [] 3 ⟨[(1000000, 1000000), (1010000, 504000)], [(200, 504000), (1000000, 1000000)], [.own 1000000 0, vi b3.f_Indent], [(1000000, 40, qc10 1010000 b1000000), (1010000, 44, [rc5 b1000000.f_l])], .agg (qc9 r3.1), [(200, 44, [rc5 r3.2.f_l]), (1000000, 40, qc10 200 r3.2)]⟩ [2, 4] [2, 4, 504000, 1000000] [(2, .own 2 0), (4, .own 4 0)] [(2, 28, qc9 b2), (4, 28, qc9 r3.1), (504000, 44, [rc5 r3.2.f_l]), (1000000, 40, qc10 504000 r3.2)] ((ok_block_reader_pairs__o0 R_block_reader_block__o0_s2 hR_block_reader_block__o0_s2 n b3.f_Indent b1000000 _ hr3)) ?_
   refine To.blockN ?_
   refine kt [2, 4] [2, 4, 504000, 1000000] [(2, .own 2 0), (4, .own 4 0)] [(2, 28, qc9 b2), (4, 28, qc9 r3.1), (504000, 44, [rc5 r3.2.f_l]), (1000000, 40, qc10 504000 r3.2)] ?_
   cases h
   exact hQ
  ·refine Wp.seq ?_
   refine rg [0, 2, 3, 4, 53] [2, 3, 4, 504000, 1000000] [(0, .own 1000000 0), (2, .own 2 0), (3, .own 3 0), (4, .own 4 0), (53, vb (decide (v7 < 0)))] [(2, 28, qc9 b2), (3, 44, qc3 b3), (4, 28, qc9 b4), (504000, 44, [rc5 b1000000.f_l]), (1000000, 40, qc10 504000 b1000000)] ?_
   refine To.thenN ?_
   refine cn h (fun h => ?_) (fun h => ?_)
   ·refine Wp.seq ?_
    obtain ⟨r4, hr4, h⟩ := lett_of h
    refine rb [] 3 ⟨[(1000000, 1000000), (1010000, 504000)], [(200, 504000), (1000000, 1000000)], [.own 1000000 0, vi b3.f_No, vi 3], [(1000000, 40, qc10 1010000 b1000000), (1010000, 44, [rc5 b1000000.f_l])], .agg (qc9 r4.1), [(200, 44, [rc5 r4.2.f_l]), (1000000, 40, qc10 200 r4.2)]⟩ [2] [2, 504000, 1000000] [(2, .own 2 0)] [(2, 28, qc9 r4.1), (504000, 44, [rc5 r4.2.f_l]), (1000000, 40, qc10 504000 r4.2)] ((ok_block_reader_fail__o0_s2 b3.f_No 3 b1000000 _ hr4)) ?_
    refine To.thenN (Wp.ret (To.blockR ?_))
    refine kt [2] [2, 504000, 1000000] [(2, .own 2 0)] [(2, 28, qc9 r4.1), (504000, 44, [rc5 r4.2.f_l]), (1000000, 40, qc10 504000 r4.2)] ?_
    cases h
    exact hQ
   ·refine Wp.seq ?_
    refine rg [0, 2, 3, 4] [2, 3, 4, 504000, 1000000] [(0, .own 1000000 0), (2, .own 2 0), (3, .own 3 0), (4, .own 4 0)] [(2, 28, qc9 b2), (3, 44, qc3 b3), (4, 28, qc9 b4), (504000, 44, [rc5 b1000000.f_l]), (1000000, 40, [.row 504000, vi (IntKind.wrap .i64 (b1000000.f_at + 1)), vi b1000000.f_no, vi b1000000.f_e])] ?_
    refine To.thenN ?_
    obtain ⟨r5, hr5, h⟩ := bind_of h
    refine rb [] 5 ⟨[(1000000, 1000000), (1010000, 504000)], [(200, 504000), (1000000, 1000000)], [.own 1000000 0, vi b3.f_No, .str b3.f_Text], [(1000000, 40, [.row 1010000, vi (IntKind.wrap .i64 (b1000000.f_at + 1)), vi b1000000.f_no, vi b1000000.f_e]), (1010000, 44, [rc5 b1000000.f_l])], .agg (qc9 r5.1), [(200, 44, [rc5 r5.2.f_l]), (1000000, 40, qc10 200 r5.2)]⟩ [2, 4] [2, 4, 504000, 1000000] [(2, .own 2 0), (4, .own 4 0)] [(2, 28, qc9 b2), (4, 28, qc9 r5.1), (504000, 44, [rc5 r5.2.f_l]), (1000000, 40, qc10 504000 r5.2)] ((ok_block_reader_value__o0 n b3.f_No b3.f_Text (S_block_reader.mk b1000000.f_l (IntKind.wrap .i64 (b1000000.f_at + 1)) b1000000.f_no b1000000.f_e) _ hr5)) ?_
    refine To.blockN ?_
    refine kt [2, 4] [2, 4, 504000, 1000000] [(2, .own 2 0), (4, .own 4 0)] [(2, 28, qc9 b2), (4, 28, qc9 r5.1), (504000, 44, [rc5 r5.2.f_l]), (1000000, 40, qc10 504000 r5.2)] ?_
    cases h
    exact hQ
def block_reader_block__o0_s2_b (R_block_reader_block__o0_s2 : S_block_reader → Option (S_api_Node × S_block_reader)) (n : Nat) (h0 : S_block_reader) : Option (S_api_Node × S_block_reader) :=
 if (decide (0 ≤ h0.f_at ∧ h0.f_at < (List.length h0.f_l : Int))) = true then ((block_Entry n (((h0.f_l)[Int.toNat h0.f_at]?.getD (S_line_Line.mk 0 0 [])).f_Text)).bind fun r1 =>
 (block_reader_block__o0_s2_j1 R_block_reader_block__o0_s2 n r1.2.2 (S_api_Node.mk 0 [] [] []) ((h0.f_l)[Int.toNat h0.f_at]?.getD (S_line_Line.mk 0 0 [])) (S_api_Node.mk 0 [] [] []) h0).bind fun o2 =>
 (Sum.elim (fun o2 => some (o2.2.1, o2.2.2)) (fun o2 => some (o2.1, o2.2))) o2) else none
theorem ok_block_reader_block__o0_s2_b (R_block_reader_block__o0_s2 : S_block_reader → Option (S_api_Node × S_block_reader)) (hR_block_reader_block__o0_s2 : hR11 R_block_reader_block__o0_s2) (n : Nat) (h0 : S_block_reader) (r : S_api_Node × S_block_reader) (h : block_reader_block__o0_s2_b R_block_reader_block__o0_s2 n h0 = some r) : CallsB Tryd.prog 10 [.own 1000000 0] [(1000000, 40, qc10 1010000 h0), (1010000, 44, [rc5 h0.f_l])] (.agg (qc9 r.1)) [(200, 44, [rc5 r.2.f_l]), (1000000, 40, qc10 200 r.2)] := by
 unfold block_reader_block__o0_s2_b at h
 refine bo Tryd.f10 rfl fun F0 w0 => ?_
 refine nw [0] [1000000, 1010000] [(1010000, 504000)] [0] [504000, 1000000] [(0, .own 1000000 0)] [(504000, 44, [rc5 h0.f_l]), (1000000, 40, qc10 504000 h0)] ?_
 refine Wp.seq ?_
 refine rg [0, 2] [2, 504000, 1000000] [(0, .own 1000000 0), (2, .own 2 0)] [(2, 28, [vi 0, .str [], .val (.slice none 0 0), .val (.slice none 0 0)]), (504000, 44, [rc5 h0.f_l]), (1000000, 40, qc10 504000 h0)] ?_
 refine To.thenN (Wp.seq ?_)
 obtain ⟨hc3, h⟩ := chk_of h
 refine Wp.regionD hm hΓ [] [0, 2, 3] [2, 3, 504000, 1000000] (K' := [(0, .own 1000000 0), (2, .own 2 0), (3, .own 3 0)]) (L' := [(2, 28, [vi 0, .str [], .val (.slice none 0 0), .val (.slice none 0 0)]), (3, 44, [vi (((h0.f_l)[Int.toNat h0.f_at]?.getD zx4).f_No), vi (((h0.f_l)[Int.toNat h0.f_at]?.getD zx4).f_Indent), .str (((h0.f_l)[Int.toNat h0.f_at]?.getD zx4).f_Text)]), (504000, 44, [rc5 h0.f_l]), (1000000, 40, qc10 504000 h0)]) (ob := [(decide (0 ≤ h0.f_at ∧ h0.f_at < (List.length h0.f_l : Int))) = true, (decide (0 ≤ h0.f_at ∧ h0.f_at < (List.length h0.f_l : Int))) = true]) (by kernel_rfl) (AllP.cons hc3 (AllP.cons hc3 AllP.nil)) ?_
 refine To.thenN (Wp.seq ?_)
 refine rg [0, 2, 3, 4] [2, 3, 4, 504000, 1000000] [(0, .own 1000000 0), (2, .own 2 0), (3, .own 3 0), (4, .own 4 0)] [(2, 28, [vi 0, .str [], .val (.slice none 0 0), .val (.slice none 0 0)]), (3, 44, [vi (((h0.f_l)[Int.toNat h0.f_at]?.getD zx4).f_No), vi (((h0.f_l)[Int.toNat h0.f_at]?.getD zx4).f_Indent), .str (((h0.f_l)[Int.toNat h0.f_at]?.getD zx4).f_Text)]), (4, 28, [vi 0, .str [], .val (.slice none 0 0), .val (.slice none 0 0)]), (504000, 44, [rc5 h0.f_l]), (1000000, 40, qc10 504000 h0)] ?_
 refine To.thenN (Wp.seq (Wp.seq ?_))
 obtain ⟨r1, hr1, h⟩ := bind_of h
 refine rc [] 2 [0, 2, 3, 4, 7] [2, 3, 4, 504000, 1000000] [(0, .own 1000000 0), (2, .own 2 0), (3, .own 3 0), (4, .own 4 0), (7, vi r1.2.2)] [(2, 28, [vi 0, .str [], .val (.slice none 0 0), .val (.slice none 0 0)]), (3, 44, [vi (((h0.f_l)[Int.toNat h0.f_at]?.getD zx4).f_No), vi (((h0.f_l)[Int.toNat h0.f_at]?.getD zx4).f_Indent), .str (((h0.f_l)[Int.toNat h0.f_at]?.getD zx4).f_Text)]), (4, 28, [vi 0, .str [], .val (.slice none 0 0), .val (.slice none 0 0)]), (504000, 44, [rc5 h0.f_l]), (1000000, 40, qc10 504000 h0)] (ok_block_Entry n (((h0.f_l)[Int.toNat h0.f_at]?.getD zx4).f_Text) _ hr1) ?_
 refine To.thenN ?_
 obtain ⟨o2, ho2, h⟩ := bind_of h
 refine kw [0, 2, 3, 4, 7] [2, 3, 4, 504000, 1000000] [(0, .own 1000000 0), (2, .own 2 0), (3, .own 3 0), (4, .own 4 0), (7, vi r1.2.2)] [(2, 28, [vi 0, .str [], .val (.slice none 0 0), .val (.slice none 0 0)]), (3, 44, [vi (((h0.f_l)[Int.toNat h0.f_at]?.getD zx4).f_No), vi (((h0.f_l)[Int.toNat h0.f_at]?.getD zx4).f_Indent), .str (((h0.f_l)[Int.toNat h0.f_at]?.getD zx4).f_Text)]), (4, 28, [vi 0, .str [], .val (.slice none 0 0), .val (.slice none 0 0)]), (504000, 44, [rc5 h0.f_l]), (1000000, 40, qc10 504000 h0)] ?_
 refine Wp.weak (K' := [(0, .own 1000000 0), (2, .own 2 0), (3, .own 3 0), (4, .own 4 0), (7, vi r1.2.2)]) (L' := [(2, 28, [vi 0, .str [], ls [], tn8 []]), (3, 44, [vi (((h0.f_l)[Int.toNat h0.f_at]?.getD zx4).f_No), vi (((h0.f_l)[Int.toNat h0.f_at]?.getD zx4).f_Indent), .str (((h0.f_l)[Int.toNat h0.f_at]?.getD zx4).f_Text)]), (4, 28, [vi 0, .str [], ls [], tn8 []]), (504000, 44, [rc5 h0.f_l]), (1000000, 40, qc10 504000 h0)]) (.cons (.refl _) (.cons (.refl _) (.cons (.refl _) (.cons (.refl _) (.cons (.refl _) .nil))))) (.cons (.cons (.refl _) (.cons (.refl _) (.cons (.zero _ _) (.cons (.zeroT _ _ _) .nil)))) (.cons (.cons (.refl _) (.cons (.refl _) (.cons (.refl _) .nil))) (.cons (.cons (.refl _) (.cons (.refl _) (.cons (.zero _ _) (.cons (.zeroT _ _ _) .nil)))) (.cons (.cons (.refl _) .nil) (.cons (.cons (.refl _) (.cons (.refl _) (.cons (.refl _) (.cons (.refl _) .nil)))) .nil))))) ?_
 refine ok_block_reader_block__o0_s2_j1 R_block_reader_block__o0_s2 hR_block_reader_block__o0_s2 n r1.2.2 zx7 ((h0.f_l)[Int.toNat h0.f_at]?.getD zx4) zx7 h0 o2 ho2 ?_
 rcases o2 with o2 | o2
 ·replace h := sum_l h
  refine To.thenN (Wp.seq ?_)
  refine rg [2] [2, 504000, 1000000] [(2, .own 2 0)] [(2, 28, qc9 o2.2.1), (504000, 44, [rc5 o2.2.2.f_l]), (1000000, 40, qc10 504000 o2.2.2)] ?_
  refine To.thenN (Wp.ret ?_)
  refine nt [2] [2, 504000, 1000000] [(504000, 200)] [2] [2, 200, 1000000] [(2, .own 2 0)] [(2, 28, qc9 o2.2.1), (200, 44, [rc5 o2.2.2.f_l]), (1000000, 40, qc10 200 o2.2.2)] ?_
  cases h
  exact To.doneB hΓ [200, 1000000] (by kernel_rfl) (by kernel_rfl)
 ·replace h := sum_r h
  refine To.thenR ?_
  refine nt [2] [2, 504000, 1000000] [(504000, 200)] [2] [2, 200, 1000000] [(2, .own 2 0)] [(2, 28, qc9 o2.1), (200, 44, [rc5 o2.2.f_l]), (1000000, 40, qc10 200 o2.2)] ?_
  cases h
  exact To.doneB hΓ [200, 1000000] (by kernel_rfl) (by kernel_rfl)
def block_reader_block__o0_s2 : Nat → S_block_reader → Option (S_api_Node × S_block_reader)
 | 0 => fun _ => none
 | n + 1 => block_reader_block__o0_s2_b (block_reader_block__o0_s2 n) n
theorem ok_block_reader_block__o0_s2 (n : Nat) : ∀ (h0 : S_block_reader) (r : S_api_Node × S_block_reader), block_reader_block__o0_s2 n h0 = some r → CallsB Tryd.prog 10 [.own 1000000 0] [(1000000, 40, qc10 1010000 h0), (1010000, 44, [rc5 h0.f_l])] (.agg (qc9 r.1)) [(200, 44, [rc5 r.2.f_l]), (1000000, 40, qc10 200 r.2)] := by
 induction n with
 | zero => intro h0 r h; cases h
 | succ n ih => exact fun h0 r h => ok_block_reader_block__o0_s2_b (block_reader_block__o0_s2 n) ih n h0 r h
def block_Parse_j1 (n : Nat) (v46 : Bool) (b2 : S_api_Node) (b9 : S_api_Node) (b27 : S_block_reader) : Option (S_block_reader) :=
 if v46 = true then (if (decide (0 ≤ b27.f_at ∧ b27.f_at < (List.length b27.f_l : Int))) = true then (lett (block_reader_fail__o0_s2 (((b27.f_l)[Int.toNat b27.f_at]?.getD (S_line_Line.mk 0 0 [])).f_No) 3 b27) fun r3 =>
 some r3.2) else none)
 else some b27
theorem ok_block_Parse_j1 (n : Nat) (v46 : Bool) (b2 : S_api_Node) (b9 : S_api_Node) (b27 : S_block_reader) (o : S_block_reader) (h : block_Parse_j1 n v46 b2 b9 b27 = some o) {F0 : Fz} {w0 : Pt Tryd.prog} {Q : Exit → Act → World → Prop} (hQ : To 81 F0 w0 [(2, .own 2 0), (8, .own 27 0), (9, .own 9 0)] [(2, 28, qc9 b2), (9, 28, qc9 b9), (27, 40, qc10 5620 o), (5620, 44, [rc5 o.f_l])] .normal Q) : Wp Tryd.prog 81 F0 w0 [(2, .own 2 0), (8, .own 27 0), (9, .own 9 0), (46, vb v46)] [(2, 28, qc9 b2), (9, 28, qc9 b9), (27, 40, qc10 5620 b27), (5620, 44, [rc5 b27.f_l])] (cB (cA (cB (cB (cB (cB (cB (cB (cF Tryd.f7))))))))) Q := by
 unfold block_Parse_j1 at h
 refine cn h (fun h => ?_) (fun h => ?_)
 ·obtain ⟨hc4, h⟩ := chk_of h
  obtain ⟨r3, hr3, h⟩ := lett_of h
  refine Wp.regionO hm hΓ [] [] [(12, ⟨[(1000000, 27), (1010000, 5620)], [(200, 5620), (1000000, 27)], [.own 1000000 0, vi (((b27.f_l)[Int.toNat b27.f_at]?.getD zx4).f_No), vi 3], [(1000000, 40, qc10 1010000 b27), (1010000, 44, [rc5 b27.f_l])], .agg (qc9 r3.1), [(200, 44, [rc5 r3.2.f_l]), (1000000, 40, qc10 200 r3.2)]⟩)] [2, 8, 9, 46, 47, 48, 49, 50, 51, 52, 53, 54, 55, 56, 57, 58, 59] [2, 9, 27, 5620] [2, 8, 9] [2, 9, 27, 5620] (K' := [(2, .own 2 0), (8, .own 27 0), (9, .own 9 0)]) (L' := [(2, 28, qc9 b2), (9, 28, qc9 b9), (27, 40, qc10 5620 r3.2), (5620, 44, [rc5 r3.2.f_l])]) (ob := [(decide (0 ≤ b27.f_at ∧ b27.f_at < (List.length b27.f_l : Int))) = true, (decide (0 ≤ b27.f_at ∧ b27.f_at < (List.length b27.f_l : Int))) = true, CbOb (CallsB Tryd.prog) 11 [.own 27 0, vi (((b27.f_l)[Int.toNat b27.f_at]?.getD zx4).f_No), vi 3] [some (40, qc10 5620 b27), some (44, [rc5 b27.f_l])] ⟨[(1000000, 27), (1010000, 5620)], [(200, 5620), (1000000, 27)], [.own 1000000 0, vi (((b27.f_l)[Int.toNat b27.f_at]?.getD zx4).f_No), vi 3], [(1000000, 40, qc10 1010000 b27), (1010000, 44, [rc5 b27.f_l])], .agg (qc9 r3.1), [(200, 44, [rc5 r3.2.f_l]), (1000000, 40, qc10 200 r3.2)]⟩]) (by kernel_rfl) (by kernel_rfl) (AllP.cons hc4 (AllP.cons hc4 (AllP.cons (⟨(ok_block_reader_fail__o0_s2 (((b27.f_l)[Int.toNat b27.f_at]?.getD zx4).f_No) 3 b27 _ hr3), by kernel_rfl, by kernel_rfl⟩) AllP.nil))) ?_
  refine kt [2, 8, 9] [2, 9, 27, 5620] [(2, .own 2 0), (8, .own 27 0), (9, .own 9 0)] [(2, 28, qc9 b2), (9, 28, qc9 b9), (27, 40, qc10 5620 r3.2), (5620, 44, [rc5 r3.2.f_l])] ?_
  cases h
  exact hQ
 ·refine Wp.skip ?_
  refine kt [2, 8, 9] [2, 9, 27, 5620] [(2, .own 2 0), (8, .own 27 0), (9, .own 9 0)] [(2, 28, qc9 b2), (9, 28, qc9 b9), (27, 40, qc10 5620 b27), (5620, 44, [rc5 b27.f_l])] ?_
  cases h
  exact hQ
def block_Parse (n : Nat) (a0 : List UInt8) : Option (S_api_Node × Int × Int) :=
 (line_Split_o n a0).bind fun r1 =>
 if (r1.2.2 != 0) = true then (some ((S_api_Node.mk 0 [] [] []), r1.2.1, r1.2.2))
 else (if ((List.length r1.1 : Int) == 0) = true then (some ((S_api_Node.mk 0 [] [] []), 0, 0))
 else ((block_reader_block__o0_s2 n (S_block_reader.mk r1.1 0 0 0)).bind fun r2 =>
 (block_Parse_j1 n (bif (r2.2.f_e == 0) then (decide (r2.2.f_at < (List.length r2.2.f_l : Int))) else false) (S_api_Node.mk 0 [] [] []) r2.1 r2.2).bind fun o3 =>
 if (o3.f_e != 0) = true then (some ((S_api_Node.mk 0 [] [] []), o3.f_no, o3.f_e))
 else ((node_Right n r2.1).bind fun r4 =>
 if (!r4) = true then (some ((S_api_Node.mk 0 [] [] []), 0, 9))
 else (some (r2.1, 0, 0)))))
theorem ok_block_Parse (n : Nat) (a0 : List UInt8) (r : S_api_Node × Int × Int) (h : block_Parse n a0 = some r) : CallsX Tryd.prog 7 [.str a0] (.tup [.agg (qc9 r.1), vi r.2.1, vi r.2.2]) := by
 unfold block_Parse at h
 refine xo Tryd.f7 rfl fun F0 w0 _ => ?_
 refine kw [0] [] [(0, .str a0)] [] ?_
 refine Wp.seq ?_
 refine rg [0, 2] [2] [(0, .str a0), (2, .own 2 0)] [(2, 28, [vi 0, .str [], .val (.slice none 0 0), .val (.slice none 0 0)])] ?_
 refine To.thenN (Wp.seq ?_)
 obtain ⟨r1, hr1, h⟩ := bind_of h
 refine rb [] 1 ⟨[], [(1, 12)], [.str a0], [], .tup [.row 1, vi r1.2.1, vi r1.2.2], [(1, 44, [rc5 r1.1])]⟩ [2, 5, 6, 7] [2, 12] [(2, .own 2 0), (5, .row 12), (6, vi r1.2.1), (7, vi r1.2.2)] [(2, 28, [vi 0, .str [], .val (.slice none 0 0), .val (.slice none 0 0)]), (12, 44, [rc5 r1.1])] ((ok_line_Split_o n a0 _ hr1)) ?_
 refine To.thenN (Wp.seq (Wp.seq ?_))
 refine rg [2, 5, 6, 7, 17] [2, 12] [(2, .own 2 0), (5, .row 12), (6, vi r1.2.1), (7, vi r1.2.2), (17, vb (r1.2.2 != 0))] [(2, 28, [vi 0, .str [], .val (.slice none 0 0), .val (.slice none 0 0)]), (12, 44, [rc5 r1.1])] ?_
 refine To.thenN ?_
 refine cn h (fun h => ?_) (fun h => ?_)
 ·refine Wp.seq ?_
  refine rg [2, 3, 4] [2] [(2, .own 2 0), (3, vi r1.2.1), (4, vi r1.2.2)] [(2, 28, [vi 0, .str [], .val (.slice none 0 0), .val (.slice none 0 0)])] ?_
  refine To.thenN (Wp.ret (To.thenR ?_))
  refine kt [2, 3, 4] [2] [(2, .own 2 0), (3, vi r1.2.1), (4, vi r1.2.2)] [(2, 28, [vi 0, .str [], .val (.slice none 0 0), .val (.slice none 0 0)])] ?_
  refine To.weak (K' := [(2, .own 2 0), (3, vi r1.2.1), (4, vi r1.2.2)]) (L' := [(2, 28, [vi 0, .str [], ls [], tn8 []])]) (.cons (.refl _) (.cons (.refl _) (.cons (.refl _) .nil))) (.cons (.cons (.refl _) (.cons (.refl _) (.cons (.zero _ _) (.cons (.zeroT _ _ _) .nil)))) .nil) ?_
  cases h
  exact To.done hΓ (by kernel_rfl)
 ·refine Wp.skip (To.thenN (Wp.seq (Wp.seq ?_)))
  refine rg [2, 5, 23] [2, 12] [(2, .own 2 0), (5, .row 12), (23, vb ((List.length r1.1 : Int) == 0))] [(2, 28, [vi 0, .str [], .val (.slice none 0 0), .val (.slice none 0 0)]), (12, 44, [rc5 r1.1])] ?_
  refine To.thenN ?_
  refine cn h (fun h => ?_) (fun h => ?_)
  ·refine Wp.seq ?_
   refine rg [2, 3, 4] [2] [(2, .own 2 0), (3, vi 0), (4, vi 0)] [(2, 28, [vi 0, .str [], .val (.slice none 0 0), .val (.slice none 0 0)])] ?_
   refine To.thenN (Wp.ret (To.thenR ?_))
   refine kt [2, 3, 4] [2] [(2, .own 2 0), (3, vi 0), (4, vi 0)] [(2, 28, [vi 0, .str [], .val (.slice none 0 0), .val (.slice none 0 0)])] ?_
   refine To.weak (K' := [(2, .own 2 0), (3, vi 0), (4, vi 0)]) (L' := [(2, 28, [vi 0, .str [], ls [], tn8 []])]) (.cons (.refl _) (.cons (.refl _) (.cons (.refl _) .nil))) (.cons (.cons (.refl _) (.cons (.refl _) (.cons (.zero _ _) (.cons (.zeroT _ _ _) .nil)))) .nil) ?_
   cases h
   exact To.done hΓ (by kernel_rfl)
  ·refine Wp.skip (To.thenN (Wp.seq ?_))
   refine rg [2, 8] [2, 12, 27] [(2, .own 2 0), (8, .own 27 0)] [(2, 28, [vi 0, .str [], .val (.slice none 0 0), .val (.slice none 0 0)]), (12, 44, [rc5 r1.1]), (27, 40, [.row 12, vi 0, vi 0, vi 0])] ?_
   refine To.thenN (Wp.seq ?_)
   obtain ⟨r2, hr2, h⟩ := bind_of h
   refine rb [] 1 ⟨[(1000000, 27), (1010000, 12)], [(200, 12), (1000000, 27)], [.own 1000000 0], [(1000000, 40, [.row 1010000, vi 0, vi 0, vi 0]), (1010000, 44, [rc5 r1.1])], .agg (qc9 r2.1), [(200, 44, [rc5 r2.2.f_l]), (1000000, 40, qc10 200 r2.2)]⟩ [2, 8, 9] [2, 9, 12, 27] [(2, .own 2 0), (8, .own 27 0), (9, .own 9 0)] [(2, 28, [vi 0, .str [], .val (.slice none 0 0), .val (.slice none 0 0)]), (9, 28, qc9 r2.1), (12, 44, [rc5 r2.2.f_l]), (27, 40, qc10 12 r2.2)] ((ok_block_reader_block__o0_s2 n (S_block_reader.mk r1.1 0 0 0) _ hr2)) ?_
   refine To.thenN (Wp.seq (Wp.seq ?_))
   refine Wp.regionD hm hΓ [] [2, 8, 9, 46] [2, 9, 12, 27] (K' := [(2, .own 2 0), (8, .own 27 0), (9, .own 9 0), (46, vb (bif (r2.2.f_e == 0) then (decide (r2.2.f_at < (List.length r2.2.f_l : Int))) else false))]) (L' := [(2, 28, [vi 0, .str [], .val (.slice none 0 0), .val (.slice none 0 0)]), (9, 28, qc9 r2.1), (12, 44, [rc5 r2.2.f_l]), (27, 40, qc10 12 r2.2)]) (ob := []) (by kernel_rfl) AllP.nil ?_
   refine To.thenN ?_
   obtain ⟨o3, ho3, h⟩ := bind_of h
   refine nw [2, 8, 9, 46] [2, 9, 12, 27] [(12, 5620)] [2, 8, 9, 46] [2, 9, 27, 5620] [(2, .own 2 0), (8, .own 27 0), (9, .own 9 0), (46, vb (bif (r2.2.f_e == 0) then (decide (r2.2.f_at < (List.length r2.2.f_l : Int))) else false))] [(2, 28, [vi 0, .str [], .val (.slice none 0 0), .val (.slice none 0 0)]), (9, 28, qc9 r2.1), (27, 40, qc10 5620 r2.2), (5620, 44, [rc5 r2.2.f_l])] ?_
   refine Wp.weak (K' := [(2, .own 2 0), (8, .own 27 0), (9, .own 9 0), (46, vb (bif (r2.2.f_e == 0) then (decide (r2.2.f_at < (List.length r2.2.f_l : Int))) else false))]) (L' := [(2, 28, [vi 0, .str [], ls [], tn8 []]), (9, 28, qc9 r2.1), (27, 40, qc10 5620 r2.2), (5620, 44, [rc5 r2.2.f_l])]) (.cons (.refl _) (.cons (.refl _) (.cons (.refl _) (.cons (.refl _) .nil)))) (.cons (.cons (.refl _) (.cons (.refl _) (.cons (.zero _ _) (.cons (.zeroT _ _ _) .nil)))) (.cons (.cons (.refl _) (.cons (.refl _) (.cons (.refl _) (.cons (.refl _) .nil)))) (.cons (.cons (.refl _) (.cons (.refl _) (.cons (.refl _) (.cons (.refl _) .nil)))) (.cons (.cons (.refl _) .nil) .nil)))) ?_
   refine ok_block_Parse_j1 n (bif (r2.2.f_e == 0) then (decide (r2.2.f_at < (List.length r2.2.f_l : Int))) else false) zx7 r2.1 r2.2 o3 ho3 ?_
   refine To.thenN (Wp.seq (Wp.block (Wp.seq ?_)))
   refine rg [2, 8, 9, 60] [2, 9, 27, 5620] [(2, .own 2 0), (8, .own 27 0), (9, .own 9 0), (60, vb (o3.f_e != 0))] [(2, 28, [vi 0, .str [], ls [], tn8 []]), (9, 28, qc9 r2.1), (27, 40, qc10 5620 o3), (5620, 44, [rc5 o3.f_l])] ?_
   refine To.thenN ?_
   refine cn h (fun h => ?_) (fun h => ?_)
   ·refine Wp.seq ?_
    refine Wp.regionD hm hΓ [] [2, 3, 4] [2] (K' := [(2, .own 2 0), (3, vi o3.f_no), (4, vi o3.f_e)]) (L' := [(2, 28, [vi 0, .str [], .val (.slice none 0 0), .val (.slice none 0 0)])]) (ob := []) (by kernel_rfl) AllP.nil ?_
    refine To.thenN (Wp.ret (To.blockR (To.thenR ?_)))
    refine kt [2, 3, 4] [2] [(2, .own 2 0), (3, vi o3.f_no), (4, vi o3.f_e)] [(2, 28, [vi 0, .str [], .val (.slice none 0 0), .val (.slice none 0 0)])] ?_
    refine To.weak (K' := [(2, .own 2 0), (3, vi o3.f_no), (4, vi o3.f_e)]) (L' := [(2, 28, [vi 0, .str [], ls [], tn8 []])]) (.cons (.refl _) (.cons (.refl _) (.cons (.refl _) .nil))) (.cons (.cons (.refl _) (.cons (.refl _) (.cons (.zero _ _) (.cons (.zeroT _ _ _) .nil)))) .nil) ?_
    cases h
    exact To.done hΓ (by kernel_rfl)
   ·refine Wp.seq ?_
    obtain ⟨r4, hr4, h⟩ := bind_of h
    refine rc [] 1 [2, 9, 75] [2, 9] [(2, .own 2 0), (9, .own 9 0), (75, vb (!r4))] [(2, 28, [vi 0, .str [], ls [], tn8 []]), (9, 28, qc9 r2.1)] (ok_node_Right n r2.1 _ hr4) ?_
    refine To.thenN ?_
    refine cn h (fun h => ?_) (fun h => ?_)
    ·refine Wp.seq ?_
     refine rg [2, 3, 4] [2] [(2, .own 2 0), (3, vi 0), (4, vi 9)] [(2, 28, [vi 0, .str [], .val (.slice none 0 0), .val (.slice none 0 0)])] ?_
     refine To.thenN (Wp.ret (To.blockR (To.thenR ?_)))
     refine kt [2, 3, 4] [2] [(2, .own 2 0), (3, vi 0), (4, vi 9)] [(2, 28, [vi 0, .str [], .val (.slice none 0 0), .val (.slice none 0 0)])] ?_
     refine To.weak (K' := [(2, .own 2 0), (3, vi 0), (4, vi 9)]) (L' := [(2, 28, [vi 0, .str [], ls [], tn8 []])]) (.cons (.refl _) (.cons (.refl _) (.cons (.refl _) .nil))) (.cons (.cons (.refl _) (.cons (.refl _) (.cons (.zero _ _) (.cons (.zeroT _ _ _) .nil)))) .nil) ?_
     cases h
     exact To.done hΓ (by kernel_rfl)
    ·refine Wp.skip (To.blockN (To.thenN (Wp.seq ?_)))
     refine rg [2, 3, 4] [2] [(2, .own 2 0), (3, vi 0), (4, vi 0)] [(2, 28, qc9 r2.1)] ?_
     refine To.thenN (Wp.ret ?_)
     cases h
     exact To.done hΓ (by kernel_rfl)
def law10_awake (n : Nat) : Option (Bool) :=
 (block_Parse n [97, 58, 10, 45, 32, 120, 10, 45, 32, 98, 58, 32, 49, 10, 32, 32, 99, 58, 32, 91, 50, 93, 10]).bind fun r1 =>
 (block_Parse n [97, 58, 32, 49, 10, 32, 32, 98, 58, 32, 50, 10]).bind fun r2 =>
 if ((!((bif (bif (r1.2.2 == 0) then (r1.2.1 == 0) else false) then ((List.length r1.1.f_Keys : Int) == 1) else false) == true) || decide (0 ≤ (0 : Int) ∧ (0 : Int) < (List.length r1.1.f_Kids : Int)))) = true then (if ((!((bif (bif (bif (r1.2.2 == 0) then (r1.2.1 == 0) else false) then ((List.length r1.1.f_Keys : Int) == 1) else false) then ((List.length (((r1.1.f_Kids)[Int.toNat 0]?.getD (S_api_Node.mk 0 [] [] [])).f_Kids) : Int) == 2) else false) == true) || decide (0 ≤ (0 : Int) ∧ (0 : Int) < (List.length r1.1.f_Kids : Int)))) = true then (if ((!((bif (bif (bif (r1.2.2 == 0) then (r1.2.1 == 0) else false) then ((List.length r1.1.f_Keys : Int) == 1) else false) then ((List.length (((r1.1.f_Kids)[Int.toNat 0]?.getD (S_api_Node.mk 0 [] [] [])).f_Kids) : Int) == 2) else false) == true) || decide (0 ≤ (1 : Int) ∧ (1 : Int) < (List.length (((r1.1.f_Kids)[Int.toNat 0]?.getD (S_api_Node.mk 0 [] [] [])).f_Kids) : Int)))) = true then (lett ((bif (bif (bif (bif (bif (bif (r1.2.2 == 0) then (r1.2.1 == 0) else false) then ((List.length r1.1.f_Keys : Int) == 1) else false) then ((List.length (((r1.1.f_Kids)[Int.toNat 0]?.getD (S_api_Node.mk 0 [] [] [])).f_Kids) : Int) == 2) else false) then ((List.length (((((r1.1.f_Kids)[Int.toNat 0]?.getD (S_api_Node.mk 0 [] [] [])).f_Kids)[Int.toNat 1]?.getD (S_api_Node.mk 0 [] [] [])).f_Keys) : Int) == 2) else false) then (r2.2.1 == 2) else false) then (r2.2.2 == 3) else false) : Bool) fun x3 =>
 some x3) else none) else none) else none
theorem ok_law10_awake (n : Nat) (r : Bool) (h : law10_awake n = some r) : CallsX Tryd.prog 5 [] (vb r) := by
 unfold law10_awake at h
 refine xo Tryd.f5 rfl fun F0 w0 _ => ?_
 refine kw [] [] [] [] ?_
 refine Wp.seq ?_
 refine rg [] [] [] [] ?_
 refine To.thenN (Wp.seq ?_)
 obtain ⟨r1, hr1, h⟩ := bind_of h
 refine rc [] 0 [1, 2, 3] [1] [(1, .own 1 0), (2, vi r1.2.1), (3, vi r1.2.2)] [(1, 28, qc9 r1.1)] (ok_block_Parse n [97, 58, 10, 45, 32, 120, 10, 45, 32, 98, 58, 32, 49, 10, 32, 32, 99, 58, 32, 91, 50, 93, 10] _ hr1) ?_
 refine To.thenN (Wp.seq ?_)
 obtain ⟨r2, hr2, h⟩ := bind_of h
 refine rc [] 0 [1, 2, 3, 5, 6] [1] [(1, .own 1 0), (2, vi r1.2.1), (3, vi r1.2.2), (5, vi r2.2.1), (6, vi r2.2.2)] [(1, 28, qc9 r1.1)] (ok_block_Parse n [97, 58, 32, 49, 10, 32, 32, 98, 58, 32, 50, 10] _ hr2) ?_
 refine To.thenN (Wp.seq ?_)
 obtain ⟨hc4, h⟩ := chk_of h
 obtain ⟨hc5, h⟩ := chk_of h
 obtain ⟨hc6, h⟩ := chk_of h
 obtain ⟨x3, hx3, h⟩ := lett_of h
 refine r0 [0] [] [(0, vb (bif (bif (bif (bif (bif (bif (r1.2.2 == 0) then (r1.2.1 == 0) else false) then ((List.length r1.1.f_Keys : Int) == 1) else false) then ((List.length (((r1.1.f_Kids)[Int.toNat 0]?.getD zx7).f_Kids) : Int) == 2) else false) then ((List.length (((((r1.1.f_Kids)[Int.toNat 0]?.getD zx7).f_Kids)[Int.toNat 1]?.getD zx7).f_Keys) : Int) == 2) else false) then (r2.2.1 == 2) else false) then (r2.2.2 == 3) else false))] [] (AllP.cons hc4 (AllP.cons hc5 (AllP.cons hc6 AllP.nil))) ?_
 refine To.eq (K' := [(0, vb x3)]) (L' := []) (by cases hx3; rfl) (by cases hx3; rfl) ?_
 refine To.thenN (Wp.ret ?_)
 cases h
 exact To.done hΓ (by kernel_rfl)
def law10_spread_l5 (n : Nat) (v0 : List UInt8) (v1 : Int) (v7 : Int) : Nat → (List (UInt8)) → Int → Option ((List (UInt8)))
 | 0, _, _ => none
 | k + 1, v5, v8 => if (decide (v8 < v1)) = true then (if (decide ((List.length v5 + List.length ([32] : List (UInt8))) * (1 + 1) ≤ limit)) = true then (law10_spread_l5 n v0 v1 v7 k (v5 ++ ([32] : List (UInt8))) (IntKind.wrap .i64 (v8 + 1))) else none)
 else some v5
theorem ok_law10_spread_l5 (n : Nat) (v0 : List UInt8) (v1 : Int) (v7 : Int) {F0 : Fz} {w0 : Pt Tryd.prog} {Q : Exit → Act → World → Prop} (k : Nat) : ∀ (v5 : List (UInt8)) (v8 : Int) (o : (List (UInt8))), law10_spread_l5 n v0 v1 v7 k v5 v8 = some o → To 56 F0 w0 [(0, .str v0), (1, vi v1), (5, .row 1005), (7, vi v7)] [(1005, 5, [rc1 o])] (.exit 4) Q → WL Tryd.prog 56 F0 w0 [(0, .str v0), (1, vi v1), (5, .row 1005), (7, vi v7), (8, vi v8)] [(1005, 5, [rc1 v5])] (cI (cI (cB (cA (cI (cB (cI (cI (cA (cB (cT (cB (cA (cI (cA (cB (cI (cI (cB (cA (cB (cB (cB (cF Tryd.f6)))))))))))))))))))))))) Q := by
 induction k with
 | zero => intro v5 v8 o h; cases h
 | succ k ih =>
  intro v5 v8 o h hQ
  rw [law10_spread_l5] at h
  refine WL.round (Wp.seq (Wp.seq ?_))
  refine rg [0, 1, 5, 7, 8, 32] [1005] [(0, .str v0), (1, vi v1), (5, .row 1005), (7, vi v7), (8, vi v8), (32, vb (decide (v8 < v1)))] [(1005, 5, [rc1 v5])] ?_
  refine To.thenN ?_
  refine cn h (fun h => ?_) (fun h => ?_)
  ·refine Wp.skip (To.thenN (Wp.seq (Wp.block ?_)))
   obtain ⟨hc1, h⟩ := chk_of h
   refine rr [] [(1, rs2 [32]), (2, rs2 (v5 ++ ([32] : List (UInt8))))] [] [0, 1, 5, 7, 8] [37] [(0, .str v0), (1, vi v1), (5, .row 37), (7, vi v7), (8, vi v8)] [(37, 5, [rc1 (v5 ++ ([32] : List (UInt8)))])] [(MkOb 1 [.val (.int .u8 32)] 1 (rs2 [32]) ∧ GoodR (rs2 [32])), (decide ((List.length v5 + List.length ([32] : List (UInt8))) * (1 + 1) ≤ limit)) = true, (AppOb 0 e8 v5 (List.flatMap e8 ([32] : List (UInt8))) (List.length ([32] : List (UInt8))) (rs2 (v5 ++ ([32] : List (UInt8)))) ∧ GoodR (rs2 (v5 ++ ([32] : List (UInt8)))))] (AllP.cons (mkOb (All8.cells (ns := [32]) (.cons rfl .nil)) rfl rfl (good8 _)) (AllP.cons hc1 (AllP.cons (appOb rfl rfl (good8 _)) AllP.nil))) ?_
   refine To.blockN (To.thenN ?_)
   refine rg [0, 1, 5, 7, 8] [37] [(0, .str v0), (1, vi v1), (5, .row 37), (7, vi v7), (8, vi (IntKind.wrap .i64 (v8 + 1)))] [(37, 5, [rc1 (v5 ++ ([32] : List (UInt8)))])] ?_
   refine nt [0, 1, 5, 7, 8] [37] [(37, 1005)] [0, 1, 5, 7, 8] [1005] [(0, .str v0), (1, vi v1), (5, .row 1005), (7, vi v7), (8, vi (IntKind.wrap .i64 (v8 + 1)))] [(1005, 5, [rc1 (v5 ++ ([32] : List (UInt8)))])] ?_
   refine To.again ?_
   exact ih (v5 ++ ([32] : List (UInt8))) (IntKind.wrap .i64 (v8 + 1)) _ h hQ
  ·refine Wp.exit (To.thenX (To.thenX ?_))
   refine kt [0, 1, 5, 7] [1005] [(0, .str v0), (1, vi v1), (5, .row 1005), (7, vi v7)] [(1005, 5, [rc1 v5])] ?_
   cases h
   exact hQ
def law10_spread_l4 (n : Nat) (v0 : List UInt8) (v1 : Int) : Nat → (List (UInt8)) → Int → Option ((List (UInt8)) × Int)
 | 0, _, _ => none
 | k + 1, v5, v7 => if ((!((decide (v7 < (List.length v0 : Int))) == true) || decide (0 ≤ v7 ∧ v7 < (List.length v0 : Int)))) = true then (if (bif (decide (v7 < (List.length v0 : Int))) then ((((v0)[Int.toNat v7]?.getD 0).toNat : Int) == 32) else false) = true then ((law10_spread_l5 n v0 v1 v7 n v5 0).bind fun o1 =>
 law10_spread_l4 n v0 v1 k o1 (IntKind.wrap .i64 (v7 + 1)))
 else (some (v5, v7))) else none
theorem ok_law10_spread_l4 (n : Nat) (v0 : List UInt8) (v1 : Int) {F0 : Fz} {w0 : Pt Tryd.prog} {Q : Exit → Act → World → Prop} (k : Nat) : ∀ (v5 : List (UInt8)) (v7 : Int) (o : (List (UInt8)) × Int), law10_spread_l4 n v0 v1 k v5 v7 = some o → To 56 F0 w0 [(0, .str v0), (1, vi v1), (5, .row 1005), (7, vi o.2)] [(1005, 5, [rc1 o.1])] (.exit 2) Q → WL Tryd.prog 56 F0 w0 [(0, .str v0), (1, vi v1), (5, .row 1005), (7, vi v7)] [(1005, 5, [rc1 v5])] (cI (cI (cA (cB (cT (cB (cA (cI (cA (cB (cI (cI (cB (cA (cB (cB (cB (cF Tryd.f6)))))))))))))))))) Q := by
 induction k with
 | zero => intro v5 v7 o h; cases h
 | succ k ih =>
  intro v5 v7 o h hQ
  rw [law10_spread_l4] at h
  refine WL.round (Wp.seq (Wp.seq ?_))
  obtain ⟨hc2, h⟩ := chk_of h
  refine r0 [0, 1, 5, 7, 29] [1005] [(0, .str v0), (1, vi v1), (5, .row 1005), (7, vi v7), (29, vb (bif (decide (v7 < (List.length v0 : Int))) then ((((v0)[Int.toNat v7]?.getD 0).toNat : Int) == 32) else false))] [(1005, 5, [rc1 v5])] (AllP.cons hc2 AllP.nil) ?_
  refine To.thenN ?_
  refine cn h (fun h => ?_) (fun h => ?_)
  ·refine Wp.skip (To.thenN (Wp.block (Wp.seq (Wp.seq ?_))))
   refine rg [0, 1, 5, 7, 8] [1005] [(0, .str v0), (1, vi v1), (5, .row 1005), (7, vi v7), (8, vi 0)] [(1005, 5, [rc1 v5])] ?_
   refine To.thenN (Wp.block ?_)
   obtain ⟨o1, ho1, h⟩ := bind_of h
   refine kw [0, 1, 5, 7, 8] [1005] [(0, .str v0), (1, vi v1), (5, .row 1005), (7, vi v7), (8, vi 0)] [(1005, 5, [rc1 v5])] ?_
   refine Wp.loopL ?_
   refine ok_law10_spread_l5 n v0 v1 v7 n v5 0 o1 ho1 ?_
   refine To.blockX (To.thenN ?_)
   refine rg [0, 1, 5, 7] [1005] [(0, .str v0), (1, vi v1), (5, .row 1005), (7, vi (IntKind.wrap .i64 (v7 + 1)))] [(1005, 5, [rc1 o1])] ?_
   refine To.blockN ?_
   refine kt [0, 1, 5, 7] [1005] [(0, .str v0), (1, vi v1), (5, .row 1005), (7, vi (IntKind.wrap .i64 (v7 + 1)))] [(1005, 5, [rc1 o1])] ?_
   refine To.again ?_
   exact ih o1 (IntKind.wrap .i64 (v7 + 1)) _ h hQ
  ·refine Wp.exit (To.thenX (To.thenX ?_))
   refine kt [0, 1, 5, 7] [1005] [(0, .str v0), (1, vi v1), (5, .row 1005), (7, vi v7)] [(1005, 5, [rc1 v5])] ?_
   cases h
   exact hQ
def law10_spread_j3 (n : Nat) (v0 : List UInt8) (v1 : Int) (v5 : List (UInt8)) (v7 : Int) (v16 : Bool) : Option (Sum ((List (UInt8)) × Int) ((List (UInt8)))) :=
 if v16 = true then (if (decide ((List.length v5 + List.length ([10, 35, 10] : List (UInt8))) * (1 + 1) ≤ limit)) = true then ((law10_spread_l4 n v0 v1 n (v5 ++ ([10, 35, 10] : List (UInt8))) v7).bind fun o1 =>
 if (o1.2 == (List.length v0 : Int)) = true then (some (.inr o1.1))
 else (some (.inl (o1.1, o1.2)))) else none)
 else (some (.inl (v5, v7)))
theorem ok_law10_spread_j3 (n : Nat) (v0 : List UInt8) (v1 : Int) (v5 : List (UInt8)) (v7 : Int) (v16 : Bool) (o : Sum ((List (UInt8)) × Int) ((List (UInt8)))) (h : law10_spread_j3 n v0 v1 v5 v7 v16 = some o) {F0 : Fz} {w0 : Pt Tryd.prog} {Q : Exit → Act → World → Prop} (hQ : (Sum.elim (fun s => To 56 F0 w0 [(0, .str v0), (1, vi v1), (5, .row 1005), (7, vi s.2)] [(1005, 5, [rc1 s.1])] .normal Q) (fun s => To 56 F0 w0 [(5, .row 1005)] [(1005, 5, [rc1 s])] (.exit 0) Q)) o) : Wp Tryd.prog 56 F0 w0 [(0, .str v0), (1, vi v1), (5, .row 1005), (7, vi v7), (16, vb v16)] [(1005, 5, [rc1 v5])] (cB (cA (cI (cA (cB (cI (cI (cB (cA (cB (cB (cB (cF Tryd.f6))))))))))))) Q := by
 unfold law10_spread_j3 at h
 refine cn h (fun h => ?_) (fun h => ?_)
 ·refine Wp.seq ?_
  obtain ⟨hc2, h⟩ := chk_of h
  refine rr [] [(1, rs2 [10, 35, 10]), (2, rs2 (v5 ++ ([10, 35, 10] : List (UInt8))))] [] [0, 1, 5, 7] [19] [(0, .str v0), (1, vi v1), (5, .row 19), (7, vi v7)] [(19, 5, [rc1 (v5 ++ ([10, 35, 10] : List (UInt8)))])] [(MkOb 1 [.val (.int .u8 10), .val (.int .u8 35), .val (.int .u8 10)] 3 (rs2 [10, 35, 10]) ∧ GoodR (rs2 [10, 35, 10])), (decide ((List.length v5 + List.length ([10, 35, 10] : List (UInt8))) * (1 + 1) ≤ limit)) = true, (AppOb 0 e8 v5 (List.flatMap e8 ([10, 35, 10] : List (UInt8))) (List.length ([10, 35, 10] : List (UInt8))) (rs2 (v5 ++ ([10, 35, 10] : List (UInt8)))) ∧ GoodR (rs2 (v5 ++ ([10, 35, 10] : List (UInt8)))))] (AllP.cons (mkOb (All8.cells (ns := [10, 35, 10]) (.cons rfl (.cons rfl (.cons rfl .nil)))) rfl rfl (good8 _)) (AllP.cons hc2 (AllP.cons (appOb rfl rfl (good8 _)) AllP.nil))) ?_
  refine To.thenN (Wp.seq (Wp.block ?_))
  obtain ⟨o1, ho1, h⟩ := bind_of h
  refine nw [0, 1, 5, 7] [19] [(19, 1005)] [0, 1, 5, 7] [1005] [(0, .str v0), (1, vi v1), (5, .row 1005), (7, vi v7)] [(1005, 5, [rc1 (v5 ++ ([10, 35, 10] : List (UInt8)))])] ?_
  refine Wp.loopL ?_
  refine ok_law10_spread_l4 n v0 v1 n (v5 ++ ([10, 35, 10] : List (UInt8))) v7 o1 ho1 ?_
  refine To.blockX (To.thenN (Wp.seq ?_))
  refine rg [0, 1, 5, 7] [1005] [(0, .str v0), (1, vi v1), (5, .row 1005), (7, vi o1.2)] [(1005, 5, [rc1 o1.1])] ?_
  refine To.thenN (Wp.seq ?_)
  refine rg [0, 1, 5, 7, 43] [1005] [(0, .str v0), (1, vi v1), (5, .row 1005), (7, vi o1.2), (43, vb (o1.2 == (List.length v0 : Int)))] [(1005, 5, [rc1 o1.1])] ?_
  refine To.thenN ?_
  refine cn h (fun h => ?_) (fun h => ?_)
  ·refine Wp.exit ?_
   refine kt [5] [1005] [(5, .row 1005)] [(1005, 5, [rc1 o1.1])] ?_
   cases h
   exact hQ
  ·refine Wp.skip ?_
   refine kt [0, 1, 5, 7] [1005] [(0, .str v0), (1, vi v1), (5, .row 1005), (7, vi o1.2)] [(1005, 5, [rc1 o1.1])] ?_
   cases h
   exact hQ
 ·refine Wp.skip ?_
  refine kt [0, 1, 5, 7] [1005] [(0, .str v0), (1, vi v1), (5, .row 1005), (7, vi v7)] [(1005, 5, [rc1 v5])] ?_
  cases h
  exact hQ
def law10_spread_j2 (n : Nat) (v0 : List UInt8) (v1 : Int) (v5 : List (UInt8)) (v6 : Bool) (v7 : Int) : Option (Sum ((List (UInt8)) × Bool × Int) ((List (UInt8)))) :=
 (law10_spread_j3 n v0 v1 v5 v7 v6).bind fun o1 =>
 (Sum.elim (fun o1 => if (decide (0 ≤ o1.2 ∧ o1.2 < (List.length v0 : Int))) = true then (if (decide ((List.length o1.1 + List.length ([((v0)[Int.toNat o1.2]?.getD 0)] : List (UInt8))) * (1 + 1) ≤ limit)) = true then (if (decide (0 ≤ o1.2 ∧ o1.2 < (List.length v0 : Int))) = true then (some (.inl ((o1.1 ++ ([((v0)[Int.toNat o1.2]?.getD 0)] : List (UInt8))), ((((v0)[Int.toNat o1.2]?.getD 0).toNat : Int) == 10), o1.2))) else none) else none) else none) (fun o1 => some (.inr o1))) o1
theorem ok_law10_spread_j2 (n : Nat) (v0 : List UInt8) (v1 : Int) (v5 : List (UInt8)) (v6 : Bool) (v7 : Int) (o : Sum ((List (UInt8)) × Bool × Int) ((List (UInt8)))) (h : law10_spread_j2 n v0 v1 v5 v6 v7 = some o) {F0 : Fz} {w0 : Pt Tryd.prog} {Q : Exit → Act → World → Prop} (hQ : (Sum.elim (fun s => To 56 F0 w0 [(0, .str v0), (1, vi v1), (5, .row 1005), (6, vb s.2.1), (7, vi s.2.2)] [(1005, 5, [rc1 s.1])] .normal Q) (fun s => To 56 F0 w0 [(5, .row 1005)] [(1005, 5, [rc1 s])] (.exit 0) Q)) o) : Wp Tryd.prog 56 F0 w0 [(0, .str v0), (1, vi v1), (5, .row 1005), (6, vb v6), (7, vi v7)] [(1005, 5, [rc1 v5])] (cA (cB (cI (cI (cB (cA (cB (cB (cB (cF Tryd.f6)))))))))) Q := by
 unfold law10_spread_j2 at h
 refine Wp.block (Wp.seq (Wp.seq ?_))
 refine rg [0, 1, 5, 7, 16] [1005] [(0, .str v0), (1, vi v1), (5, .row 1005), (7, vi v7), (16, vb v6)] [(1005, 5, [rc1 v5])] ?_
 refine To.thenN ?_
 obtain ⟨o1, ho1, h⟩ := bind_of h
 refine kw [0, 1, 5, 7, 16] [1005] [(0, .str v0), (1, vi v1), (5, .row 1005), (7, vi v7), (16, vb v6)] [(1005, 5, [rc1 v5])] ?_
 refine ok_law10_spread_j3 n v0 v1 v5 v7 v6 o1 ho1 ?_
 rcases o1 with o1 | o1
 ·replace h := sum_l h
  refine To.thenN (Wp.seq ?_)
  obtain ⟨hc3, h⟩ := chk_of h
  obtain ⟨hc4, h⟩ := chk_of h
  refine rr [] [(4, rs2 ([((v0)[Int.toNat o1.2]?.getD 0)])), (5, rs2 (o1.1 ++ ([((v0)[Int.toNat o1.2]?.getD 0)] : List (UInt8))))] [] [0, 1, 5, 7] [49] [(0, .str v0), (1, vi v1), (5, .row 49), (7, vi o1.2)] [(49, 5, [rc1 (o1.1 ++ ([((v0)[Int.toNat o1.2]?.getD 0)] : List (UInt8)))])] [(decide (0 ≤ o1.2 ∧ o1.2 < (List.length v0 : Int))) = true, (MkOb 1 [.val (.int .u8 (((v0)[Int.toNat o1.2]?.getD 0).toNat : Int))] 1 (rs2 ([((v0)[Int.toNat o1.2]?.getD 0)])) ∧ GoodR (rs2 ([((v0)[Int.toNat o1.2]?.getD 0)]))), (decide ((List.length o1.1 + List.length ([((v0)[Int.toNat o1.2]?.getD 0)] : List (UInt8))) * (1 + 1) ≤ limit)) = true, (AppOb 0 e8 o1.1 (List.flatMap e8 ([((v0)[Int.toNat o1.2]?.getD 0)] : List (UInt8))) (List.length ([((v0)[Int.toNat o1.2]?.getD 0)] : List (UInt8))) (rs2 (o1.1 ++ ([((v0)[Int.toNat o1.2]?.getD 0)] : List (UInt8)))) ∧ GoodR (rs2 (o1.1 ++ ([((v0)[Int.toNat o1.2]?.getD 0)] : List (UInt8)))))] (AllP.cons hc3 (AllP.cons (mkOb (All8.cells (ns := [(((v0)[Int.toNat o1.2]?.getD 0).toNat : Int)]) (.cons rfl .nil)) rfl rfl (good8 _)) (AllP.cons hc4 (AllP.cons (appOb rfl rfl (good8 _)) AllP.nil)))) ?_
  refine To.thenN ?_
  obtain ⟨hc2, h⟩ := chk_of h
  refine r0 [0, 1, 5, 6, 7] [49] [(0, .str v0), (1, vi v1), (5, .row 49), (6, vb ((((v0)[Int.toNat o1.2]?.getD 0).toNat : Int) == 10)), (7, vi o1.2)] [(49, 5, [rc1 (o1.1 ++ ([((v0)[Int.toNat o1.2]?.getD 0)] : List (UInt8)))])] (AllP.cons hc2 AllP.nil) ?_
  refine To.blockN ?_
  refine nt [0, 1, 5, 6, 7] [49] [(49, 1005)] [0, 1, 5, 6, 7] [1005] [(0, .str v0), (1, vi v1), (5, .row 1005), (6, vb ((((v0)[Int.toNat o1.2]?.getD 0).toNat : Int) == 10)), (7, vi o1.2)] [(1005, 5, [rc1 (o1.1 ++ ([((v0)[Int.toNat o1.2]?.getD 0)] : List (UInt8)))])] ?_
  cases h
  exact hQ
 ·replace h := sum_r h
  refine To.thenX (To.blockO (by decide) ?_)
  refine kt [5] [1005] [(5, .row 1005)] [(1005, 5, [rc1 o1])] ?_
  cases h
  exact hQ
def law10_spread_l1 (n : Nat) (v0 : List UInt8) (v1 : Int) : Nat → (List (UInt8)) → Bool → Int → Option ((List (UInt8)))
 | 0, _, _, _ => none
 | k + 1, v5, v6, v7 => if (decide (v7 < (List.length v0 : Int))) = true then ((law10_spread_j2 n v0 v1 v5 v6 v7).bind fun o1 =>
 (Sum.elim (fun o1 => law10_spread_l1 n v0 v1 k o1.1 o1.2.1 (IntKind.wrap .i64 (o1.2.2 + 1))) (fun o1 => some o1)) o1)
 else some v5
theorem ok_law10_spread_l1 (n : Nat) (v0 : List UInt8) (v1 : Int) {F0 : Fz} {w0 : Pt Tryd.prog} {Q : Exit → Act → World → Prop} (k : Nat) : ∀ (v5 : List (UInt8)) (v6 : Bool) (v7 : Int) (o : (List (UInt8))), law10_spread_l1 n v0 v1 k v5 v6 v7 = some o → To 56 F0 w0 [(5, .row 1005)] [(1005, 5, [rc1 o])] (.exit 0) Q → WL Tryd.prog 56 F0 w0 [(0, .str v0), (1, vi v1), (5, .row 1005), (6, vb v6), (7, vi v7)] [(1005, 5, [rc1 v5])] (cI (cI (cB (cA (cB (cB (cB (cF Tryd.f6)))))))) Q := by
 induction k with
 | zero => intro v5 v6 v7 o h; cases h
 | succ k ih =>
  intro v5 v6 v7 o h hQ
  rw [law10_spread_l1] at h
  refine WL.round (Wp.seq (Wp.seq ?_))
  refine rg [0, 1, 5, 6, 7, 13] [1005] [(0, .str v0), (1, vi v1), (5, .row 1005), (6, vb v6), (7, vi v7), (13, vb (decide (v7 < (List.length v0 : Int))))] [(1005, 5, [rc1 v5])] ?_
  refine To.thenN ?_
  refine cn h (fun h => ?_) (fun h => ?_)
  ·refine Wp.skip (To.thenN (Wp.seq ?_))
   obtain ⟨o1, ho1, h⟩ := bind_of h
   refine kw [0, 1, 5, 6, 7] [1005] [(0, .str v0), (1, vi v1), (5, .row 1005), (6, vb v6), (7, vi v7)] [(1005, 5, [rc1 v5])] ?_
   refine ok_law10_spread_j2 n v0 v1 v5 v6 v7 o1 ho1 ?_
   rcases o1 with o1 | o1
   ·replace h := sum_l h
    refine To.thenN ?_
    refine rg [0, 1, 5, 6, 7] [1005] [(0, .str v0), (1, vi v1), (5, .row 1005), (6, vb o1.2.1), (7, vi (IntKind.wrap .i64 (o1.2.2 + 1)))] [(1005, 5, [rc1 o1.1])] ?_
    refine kt [0, 1, 5, 6, 7] [1005] [(0, .str v0), (1, vi v1), (5, .row 1005), (6, vb o1.2.1), (7, vi (IntKind.wrap .i64 (o1.2.2 + 1)))] [(1005, 5, [rc1 o1.1])] ?_
    refine To.again ?_
    exact ih o1.1 o1.2.1 (IntKind.wrap .i64 (o1.2.2 + 1)) _ h hQ
   ·replace h := sum_r h
    refine To.thenX (To.thenX ?_)
    refine kt [5] [1005] [(5, .row 1005)] [(1005, 5, [rc1 o1])] ?_
    cases h
    exact hQ
  ·refine Wp.exit (To.thenX (To.thenX ?_))
   refine kt [5] [1005] [(5, .row 1005)] [(1005, 5, [rc1 v5])] ?_
   cases h
   exact hQ
def law10_spread (n : Nat) (a0 : List UInt8) (a1 : Int) : Option ((List UInt8)) :=
 (law10_spread_l1 n a0 a1 n ([] : List (UInt8)) true 0).bind fun o1 =>
 some o1
theorem ok_law10_spread (n : Nat) (a0 : List UInt8) (a1 : Int) (r : (List UInt8)) (h : law10_spread n a0 a1 = some r) : CallsX Tryd.prog 6 [.str a0, vi a1] (.str r) := by
 unfold law10_spread at h
 refine xo Tryd.f6 rfl fun F0 w0 _ => ?_
 refine kw [0, 1] [] [(0, .str a0), (1, vi a1)] [] ?_
 refine Wp.seq ?_
 refine rg [0, 1] [] [(0, .str a0), (1, vi a1)] [] ?_
 refine To.thenN (Wp.seq ?_)
 refine rr [] [(0, rs2 [])] [] [0, 1, 5] [9] [(0, .str a0), (1, vi a1), (5, .row 9)] [(9, 5, [rc1 []])] [(MkOb 1 [] 0 (rs2 []) ∧ GoodR (rs2 []))] (AllP.cons (mkOb (All8.cells (ns := []) .nil) rfl rfl (good8 _)) AllP.nil) ?_
 refine To.thenN (Wp.seq ?_)
 refine rg [0, 1, 5, 6] [9] [(0, .str a0), (1, vi a1), (5, .row 9), (6, vb true)] [(9, 5, [rc1 []])] ?_
 refine To.thenN (Wp.seq (Wp.seq ?_))
 refine rg [0, 1, 5, 6, 7] [9] [(0, .str a0), (1, vi a1), (5, .row 9), (6, vb true), (7, vi 0)] [(9, 5, [rc1 []])] ?_
 refine To.thenN (Wp.block ?_)
 obtain ⟨o1, ho1, h⟩ := bind_of h
 refine nw [0, 1, 5, 6, 7] [9] [(9, 1005)] [0, 1, 5, 6, 7] [1005] [(0, .str a0), (1, vi a1), (5, .row 1005), (6, vb true), (7, vi 0)] [(1005, 5, [rc1 []])] ?_
 refine Wp.loopL ?_
 refine ok_law10_spread_l1 n a0 a1 n ([] : List (UInt8)) true 0 o1 ho1 ?_
 refine To.blockX (To.thenN (Wp.seq ?_))
 refine rr [] [(1, .str o1)] [] [4] [] [(4, .str o1)] [] [(true = true → StrOb (List.flatMap e8 o1) (.str o1))] (AllP.cons (fun _ => strOb (flat8 _)) AllP.nil) ?_
 refine To.thenN (Wp.ret ?_)
 cases h
 exact To.done hΓ (by kernel_rfl)
def ref02_Same_l1 (n : Nat) (v0 : List (List UInt8)) (v1 : List (List UInt8)) : Nat → Int → Option (Sum (Unit) (Bool))
 | 0, _ => none
 | k + 1, v5 => if (decide (v5 < (List.length v0 : Int))) = true then (if (decide (0 ≤ v5 ∧ v5 < (List.length v0 : Int))) = true then (if (decide (0 ≤ v5 ∧ v5 < (List.length v1 : Int))) = true then (if (!(((v0)[Int.toNat v5]?.getD []) == ((v1)[Int.toNat v5]?.getD []))) = true then (some (.inr false))
 else (ref02_Same_l1 n v0 v1 k (IntKind.wrap .i64 (v5 + 1)))) else none) else none)
 else (some (.inl ()))
theorem ok_ref02_Same_l1 (n : Nat) (v0 : List (List UInt8)) (v1 : List (List UInt8)) {F0 : Fz} {w0 : Pt Tryd.prog} {Q : Exit → Act → World → Prop} (k : Nat) : ∀ (v5 : Int) (o : Sum (Unit) (Bool)), ref02_Same_l1 n v0 v1 k v5 = some o → (Sum.elim (fun s => To 26 F0 w0 [] [] (.exit 0) Q) (fun s => To 26 F0 w0 [(4, vb s)] [] .ret Q)) o → WL Tryd.prog 26 F0 w0 [(0, ls v0), (1, ls v1), (5, vi v5)] [] (cI (cI (cB (cA (cB (cB (cF Tryd.f13))))))) Q := by
 induction k with
 | zero => intro v5 o h; cases h
 | succ k ih =>
  intro v5 o h hQ
  rw [ref02_Same_l1] at h
  refine WL.round (Wp.seq (Wp.seq ?_))
  refine rg [0, 1, 5, 14] [] [(0, ls v0), (1, ls v1), (5, vi v5), (14, vb (decide (v5 < (List.length v0 : Int))))] [] ?_
  refine To.thenN ?_
  refine cn h (fun h => ?_) (fun h => ?_)
  ·refine Wp.skip (To.thenN (Wp.seq (Wp.block (Wp.seq ?_))))
   obtain ⟨hc1, h⟩ := chk_of h
   obtain ⟨hc2, h⟩ := chk_of h
   refine Wp.regionD hm hΓ [] [0, 1, 5, 25] [] (K' := [(0, ls v0), (1, ls v1), (5, vi v5), (25, vb (!(((v0)[Int.toNat v5]?.getD []) == ((v1)[Int.toNat v5]?.getD []))))]) (L' := []) (ob := [(decide (0 ≤ v5 ∧ v5 < (List.length v0 : Int))) = true, (decide (0 ≤ v5 ∧ v5 < (List.length v1 : Int))) = true]) (by kernel_rfl) (AllP.cons hc1 (AllP.cons hc2 AllP.nil)) ?_
   refine To.thenN ?_
   refine cn h (fun h => ?_) (fun h => ?_)
   ·refine Wp.seq ?_
    refine rg [4] [] [(4, vb false)] [] ?_
    refine To.thenN (Wp.ret (To.blockR (To.thenR (To.thenR ?_))))
    refine kt [4] [] [(4, vb false)] [] ?_
    cases h
    exact hQ
   ·refine Wp.skip (To.blockN (To.thenN ?_))
    refine rg [0, 1, 5] [] [(0, ls v0), (1, ls v1), (5, vi (IntKind.wrap .i64 (v5 + 1)))] [] ?_
    refine kt [0, 1, 5] [] [(0, ls v0), (1, ls v1), (5, vi (IntKind.wrap .i64 (v5 + 1)))] [] ?_
    refine To.again ?_
    exact ih (IntKind.wrap .i64 (v5 + 1)) _ h hQ
  ·refine Wp.exit (To.thenX (To.thenX ?_))
   refine kt [] [] [] [] ?_
   cases h
   exact hQ
def ref02_Same (n : Nat) (a0 : List (List UInt8)) (a1 : List (List UInt8)) : Option (Bool) :=
 if ((List.length a0 : Int) != (List.length a1 : Int)) = true then some false
 else ((ref02_Same_l1 n a0 a1 n 0).bind fun o1 =>
 (Sum.elim (fun o1 => some true) (fun o1 => some o1)) o1)
theorem ok_ref02_Same (n : Nat) (a0 : List (List UInt8)) (a1 : List (List UInt8)) (r : Bool) (h : ref02_Same n a0 a1 = some r) : CallsX Tryd.prog 13 [ls a0, ls a1] (vb r) := by
 unfold ref02_Same at h
 refine xo Tryd.f13 rfl fun F0 w0 _ => ?_
 refine kw [0, 1] [] [(0, ls a0), (1, ls a1)] [] ?_
 refine Wp.seq ?_
 refine rg [0, 1] [] [(0, ls a0), (1, ls a1)] [] ?_
 refine To.thenN (Wp.seq (Wp.seq ?_))
 refine rg [0, 1, 10] [] [(0, ls a0), (1, ls a1), (10, vb ((List.length a0 : Int) != (List.length a1 : Int)))] [] ?_
 refine To.thenN ?_
 refine cn h (fun h => ?_) (fun h => ?_)
 ·refine Wp.seq ?_
  refine rg [4] [] [(4, vb false)] [] ?_
  refine To.thenN (Wp.ret (To.thenR ?_))
  cases h
  exact To.done hΓ (by kernel_rfl)
 ·refine Wp.skip (To.thenN (Wp.seq (Wp.seq ?_)))
  refine rg [0, 1, 5] [] [(0, ls a0), (1, ls a1), (5, vi 0)] [] ?_
  refine To.thenN (Wp.block ?_)
  obtain ⟨o1, ho1, h⟩ := bind_of h
  refine kw [0, 1, 5] [] [(0, ls a0), (1, ls a1), (5, vi 0)] [] ?_
  refine Wp.loopL ?_
  refine ok_ref02_Same_l1 n a0 a1 n 0 o1 ho1 ?_
  rcases o1 with o1 | o1
  ·replace h := sum_l h
   refine To.blockX (To.thenN (Wp.seq ?_))
   refine rg [4] [] [(4, vb true)] [] ?_
   refine To.thenN (Wp.ret ?_)
   cases h
   exact To.done hΓ (by kernel_rfl)
  ·replace h := sum_r h
   refine To.blockR (To.thenR ?_)
   cases h
   exact To.done hΓ (by kernel_rfl)
def ref08_Same_l1 (R_ref08_Same : S_api_Node → S_api_Node → Option (Bool)) (n : Nat) (b2 : S_api_Node) (b3 : S_api_Node) : Nat → Int → Option (Sum (Unit) (Bool))
 | 0, _ => none
 | k + 1, v5 => if (decide (v5 < (List.length b2.f_Kids : Int))) = true then (if (decide (0 ≤ v5 ∧ v5 < (List.length b2.f_Kids : Int))) = true then (if (decide (0 ≤ v5 ∧ v5 < (List.length b3.f_Kids : Int))) = true then ((R_ref08_Same ((b2.f_Kids)[Int.toNat v5]?.getD (S_api_Node.mk 0 [] [] [])) ((b3.f_Kids)[Int.toNat v5]?.getD (S_api_Node.mk 0 [] [] []))).bind fun r3 =>
 if (!r3) = true then (some (.inr false))
 else (ref08_Same_l1 R_ref08_Same n b2 b3 k (IntKind.wrap .i64 (v5 + 1)))) else none) else none)
 else (some (.inl ()))
abbrev hR23 (R_ref08_Same : S_api_Node → S_api_Node → Option (Bool)) : Prop := ∀ (a0 : S_api_Node) (a1 : S_api_Node) (r : Bool), R_ref08_Same a0 a1 = some r → CallsX Tryd.prog 8 [.agg [vi a0.f_Kind, .str a0.f_Text, ls a0.f_Keys, tn8 a0.f_Kids], .agg [vi a1.f_Kind, .str a1.f_Text, ls a1.f_Keys, tn8 a1.f_Kids]] (vb r)
theorem ok_ref08_Same_l1 (R_ref08_Same : S_api_Node → S_api_Node → Option (Bool)) (hR_ref08_Same : hR23 R_ref08_Same) (n : Nat) (b2 : S_api_Node) (b3 : S_api_Node) {F0 : Fz} {w0 : Pt Tryd.prog} {Q : Exit → Act → World → Prop} (k : Nat) : ∀ (v5 : Int) (o : Sum (Unit) (Bool)), ref08_Same_l1 R_ref08_Same n b2 b3 k v5 = some o → (Sum.elim (fun s => To 54 F0 w0 [] [] (.exit 0) Q) (fun s => To 54 F0 w0 [(4, vb s)] [] .ret Q)) o → WL Tryd.prog 54 F0 w0 [(2, .own 2 0), (3, .own 3 0), (5, vi v5)] [(2, 28, qc9 b2), (3, 28, qc9 b3)] (cI (cI (cB (cA (cB (cB (cF Tryd.f8))))))) Q := by
 induction k with
 | zero => intro v5 o h; cases h
 | succ k ih =>
  intro v5 o h hQ
  rw [ref08_Same_l1] at h
  refine WL.round (Wp.seq (Wp.seq ?_))
  refine rg [2, 3, 5, 39] [2, 3] [(2, .own 2 0), (3, .own 3 0), (5, vi v5), (39, vb (decide (v5 < (List.length b2.f_Kids : Int))))] [(2, 28, qc9 b2), (3, 28, qc9 b3)] ?_
  refine To.thenN ?_
  refine cn h (fun h => ?_) (fun h => ?_)
  ·refine Wp.skip (To.thenN (Wp.seq (Wp.block (Wp.seq ?_))))
   obtain ⟨hc4, h⟩ := chk_of h
   obtain ⟨hc5, h⟩ := chk_of h
   obtain ⟨r3, hr3, h⟩ := bind_of h
   refine Wp.regionD hm hΓ [(10, vb r3)] [2, 3, 5, 53] [2, 3] (K' := [(2, .own 2 0), (3, .own 3 0), (5, vi v5), (53, vb (!r3))]) (L' := [(2, 28, qc9 b2), (3, 28, qc9 b3)]) (ob := [(decide (0 ≤ v5 ∧ v5 < (List.length b2.f_Kids : Int))) = true, (decide (0 ≤ v5 ∧ v5 < (List.length b3.f_Kids : Int))) = true, (true = true → CX Tryd.prog 8 [.agg [vi (((b2.f_Kids)[Int.toNat v5]?.getD zx7).f_Kind), .str (((b2.f_Kids)[Int.toNat v5]?.getD zx7).f_Text), ls (((b2.f_Kids)[Int.toNat v5]?.getD zx7).f_Keys), tn8 (((b2.f_Kids)[Int.toNat v5]?.getD zx7).f_Kids)], .agg [vi (((b3.f_Kids)[Int.toNat v5]?.getD zx7).f_Kind), .str (((b3.f_Kids)[Int.toNat v5]?.getD zx7).f_Text), ls (((b3.f_Kids)[Int.toNat v5]?.getD zx7).f_Keys), tn8 (((b3.f_Kids)[Int.toNat v5]?.getD zx7).f_Kids)]] (vb r3))]) (by kernel_rfl) (AllP.cons hc4 (AllP.cons hc5 (AllP.cons (fun _ => cx (hR_ref08_Same ((b2.f_Kids)[Int.toNat v5]?.getD zx7) ((b3.f_Kids)[Int.toNat v5]?.getD zx7) _ hr3)) AllP.nil))) ?_
   refine To.thenN ?_
   refine cn h (fun h => ?_) (fun h => ?_)
   ·refine Wp.seq ?_
    refine rg [4] [] [(4, vb false)] [] ?_
    refine To.thenN (Wp.ret (To.blockR (To.thenR (To.thenR ?_))))
    refine kt [4] [] [(4, vb false)] [] ?_
    cases h
    exact hQ
   ·refine Wp.skip (To.blockN (To.thenN ?_))
    refine rg [2, 3, 5] [2, 3] [(2, .own 2 0), (3, .own 3 0), (5, vi (IntKind.wrap .i64 (v5 + 1)))] [(2, 28, qc9 b2), (3, 28, qc9 b3)] ?_
    refine kt [2, 3, 5] [2, 3] [(2, .own 2 0), (3, .own 3 0), (5, vi (IntKind.wrap .i64 (v5 + 1)))] [(2, 28, qc9 b2), (3, 28, qc9 b3)] ?_
    refine To.again ?_
    exact ih (IntKind.wrap .i64 (v5 + 1)) _ h hQ
  ·refine Wp.exit (To.thenX (To.thenX ?_))
   refine kt [] [] [] [] ?_
   cases h
   exact hQ
def ref08_Same_b (R_ref08_Same : S_api_Node → S_api_Node → Option (Bool)) (n : Nat) (a0 : S_api_Node) (a1 : S_api_Node) : Option (Bool) :=
 ((if ((bif (a0.f_Kind != a1.f_Kind) then true else (!(a0.f_Text == a1.f_Text))) == false) = true then ref02_Same n a0.f_Keys a1.f_Keys else some false)).bind fun r1 =>
 lett ((bif (bif (bif (a0.f_Kind != a1.f_Kind) then true else (!(a0.f_Text == a1.f_Text))) then true else (!r1)) then true else ((List.length a0.f_Kids : Int) != (List.length a1.f_Kids : Int))) : Bool) fun x2 =>
 if x2 = true then some false
 else ((ref08_Same_l1 R_ref08_Same n a0 a1 n 0).bind fun o3 =>
 (Sum.elim (fun o3 => some true) (fun o3 => some o3)) o3)
theorem ok_ref08_Same_b (R_ref08_Same : S_api_Node → S_api_Node → Option (Bool)) (hR_ref08_Same : hR23 R_ref08_Same) (n : Nat) (a0 : S_api_Node) (a1 : S_api_Node) (r : Bool) (h : ref08_Same_b R_ref08_Same n a0 a1 = some r) : CallsX Tryd.prog 8 [.agg (qc9 a0), .agg (qc9 a1)] (vb r) := by
 unfold ref08_Same_b at h
 refine xo Tryd.f8 rfl fun F0 w0 _ => ?_
 refine kw [0, 1] [] [(0, .agg (qc9 a0)), (1, .agg (qc9 a1))] [] ?_
 refine Wp.seq ?_
 refine rg [2, 3] [2, 3] [(2, .own 2 0), (3, .own 3 0)] [(2, 28, qc9 a0), (3, 28, qc9 a1)] ?_
 refine To.thenN (Wp.seq (Wp.seq ?_))
 obtain ⟨r1, hr1, h⟩ := bind_of h
 obtain ⟨x2, hx2, h⟩ := lett_of h
 refine rr [] [(17, vb r1)] [] [2, 3, 34] [2, 3] [(2, .own 2 0), (3, .own 3 0), (34, vb (bif (bif (bif (a0.f_Kind != a1.f_Kind) then true else (!(a0.f_Text == a1.f_Text))) then true else (!r1)) then true else ((List.length a0.f_Kids : Int) != (List.length a1.f_Kids : Int))))] [(2, 28, qc9 a0), (3, 28, qc9 a1)] [(((bif (a0.f_Kind != a1.f_Kind) then true else (!(a0.f_Text == a1.f_Text))) == false) = true → CX Tryd.prog 13 [ls a0.f_Keys, ls a1.f_Keys] (vb r1))] (AllP.cons (fun hg => cx (ok_ref02_Same n a0.f_Keys a1.f_Keys _ (if_t hg hr1))) AllP.nil) ?_
 refine To.eq (K' := [(2, .own 2 0), (3, .own 3 0), (34, vb x2)]) (L' := [(2, 28, qc9 a0), (3, 28, qc9 a1)]) (by cases hx2; rfl) (by cases hx2; rfl) ?_
 refine To.thenN ?_
 refine cn h (fun h => ?_) (fun h => ?_)
 ·refine Wp.seq ?_
  refine rg [4] [] [(4, vb false)] [] ?_
  refine To.thenN (Wp.ret (To.thenR ?_))
  cases h
  exact To.done hΓ (by kernel_rfl)
 ·refine Wp.skip (To.thenN (Wp.seq (Wp.seq ?_)))
  refine rg [2, 3, 5] [2, 3] [(2, .own 2 0), (3, .own 3 0), (5, vi 0)] [(2, 28, qc9 a0), (3, 28, qc9 a1)] ?_
  refine To.thenN (Wp.block ?_)
  obtain ⟨o3, ho3, h⟩ := bind_of h
  refine kw [2, 3, 5] [2, 3] [(2, .own 2 0), (3, .own 3 0), (5, vi 0)] [(2, 28, qc9 a0), (3, 28, qc9 a1)] ?_
  refine Wp.loopL ?_
  refine ok_ref08_Same_l1 R_ref08_Same hR_ref08_Same n a0 a1 n 0 o3 ho3 ?_
  rcases o3 with o3 | o3
  ·replace h := sum_l h
   refine To.blockX (To.thenN (Wp.seq ?_))
   refine rg [4] [] [(4, vb true)] [] ?_
   refine To.thenN (Wp.ret ?_)
   cases h
   exact To.done hΓ (by kernel_rfl)
  ·replace h := sum_r h
   refine To.blockR (To.thenR ?_)
   cases h
   exact To.done hΓ (by kernel_rfl)
def ref08_Same : Nat → S_api_Node → S_api_Node → Option (Bool)
 | 0 => fun _ _ => none
 | n + 1 => ref08_Same_b (ref08_Same n) n
theorem ok_ref08_Same (n : Nat) : ∀ (a0 : S_api_Node) (a1 : S_api_Node) (r : Bool), ref08_Same n a0 a1 = some r → CallsX Tryd.prog 8 [.agg (qc9 a0), .agg (qc9 a1)] (vb r) := by
 induction n with
 | zero => intro a0 a1 r h; cases h
 | succ n ih => exact fun a0 a1 r h => ok_ref08_Same_b (ref08_Same n) ih n a0 a1 r h
def law10_BlockSpread_j1 (n : Nat) (v0 : List UInt8) (v5 : Int) (v22 : Bool) : Option (Int) :=
 if v22 = true then some 3
 else some v5
theorem ok_law10_BlockSpread_j1 (n : Nat) (v0 : List UInt8) (v5 : Int) (v22 : Bool) (o : Int) (h : law10_BlockSpread_j1 n v0 v5 v22 = some o) {F0 : Fz} {w0 : Pt Tryd.prog} {Q : Exit → Act → World → Prop} (hQ : To 53 F0 w0 [(0, .str v0), (5, vi o)] [] .normal Q) : Wp Tryd.prog 53 F0 w0 [(0, .str v0), (5, vi v5), (22, vb v22)] [] (cB (cA (cB (cB (cB (cF Tryd.f3)))))) Q := by
 unfold law10_BlockSpread_j1 at h
 refine cn h (fun h => ?_) (fun h => ?_)
 ·refine rg [0, 5] [] [(0, .str v0), (5, vi 3)] [] ?_
  refine kt [0, 5] [] [(0, .str v0), (5, vi 3)] [] ?_
  cases h
  exact hQ
 ·refine Wp.skip ?_
  refine kt [0, 5] [] [(0, .str v0), (5, vi v5)] [] ?_
  cases h
  exact hQ
def law10_BlockSpread (n : Nat) (a0 : List UInt8) (a1 : Bool) : Option (Bool) :=
 ((if ((decide ((List.length a0 : Int) > 1500)) == false) = true then law10_lone n a0 else some false)).bind fun r1 =>
 if (bif (decide ((List.length a0 : Int) > 1500)) then true else (!r1)) = true then ((law10_awake n).bind fun r2 =>
 some r2)
 else ((law10_BlockSpread_j1 n a0 2 a1).bind fun o3 =>
 (law10_spread n a0 o3).bind fun r4 =>
 if (decide ((List.length r4 : Int) > 8000)) = true then ((law10_awake n).bind fun r5 =>
 some r5)
 else ((block_Parse n a0).bind fun r6 =>
 (block_Parse n r4).bind fun r7 =>
 (ref08_Same n r6.1 r7.1).bind fun r8 =>
 ((if ((bif r8 then (r6.2.2 == r7.2.2) else false) == true) = true then law10_awake n else some false)).bind fun r9 =>
 some (bif (bif r8 then (r6.2.2 == r7.2.2) else false) then r9 else false)))
theorem ok_law10_BlockSpread (n : Nat) (a0 : List UInt8) (a1 : Bool) (r : Bool) (h : law10_BlockSpread n a0 a1 = some r) : CallsX Tryd.prog 3 [.str a0, vb a1] (vb r) := by
 unfold law10_BlockSpread at h
 refine xo Tryd.f3 rfl fun F0 w0 _ => ?_
 refine kw [0, 1] [] [(0, .str a0), (1, vb a1)] [] ?_
 refine Wp.seq ?_
 refine rg [0, 1] [] [(0, .str a0), (1, vb a1)] [] ?_
 refine To.thenN (Wp.seq (Wp.seq ?_))
 obtain ⟨r1, hr1, h⟩ := bind_of h
 refine rr [] [(5, vb r1)] [] [0, 1, 20] [] [(0, .str a0), (1, vb a1), (20, vb (bif (decide ((List.length a0 : Int) > 1500)) then true else (!r1)))] [] [(((decide ((List.length a0 : Int) > 1500)) == false) = true → CX Tryd.prog 4 [.str a0] (vb r1))] (AllP.cons (fun hg => cx (ok_law10_lone n a0 _ (if_t hg hr1))) AllP.nil) ?_
 refine To.thenN ?_
 refine cn h (fun h => ?_) (fun h => ?_)
 ·refine Wp.seq ?_
  obtain ⟨r2, hr2, h⟩ := bind_of h
  refine rc [] 0 [4] [] [(4, vb r2)] [] (ok_law10_awake n  _ hr2) ?_
  refine To.thenN (Wp.ret (To.thenR ?_))
  cases h
  exact To.done hΓ (by kernel_rfl)
 ·refine Wp.skip (To.thenN (Wp.seq ?_))
  refine rg [0, 1, 5] [] [(0, .str a0), (1, vb a1), (5, vi 2)] [] ?_
  refine To.thenN (Wp.seq (Wp.seq ?_))
  refine rg [0, 5, 22] [] [(0, .str a0), (5, vi 2), (22, vb a1)] [] ?_
  refine To.thenN ?_
  obtain ⟨o3, ho3, h⟩ := bind_of h
  refine kw [0, 5, 22] [] [(0, .str a0), (5, vi 2), (22, vb a1)] [] ?_
  refine ok_law10_BlockSpread_j1 n a0 2 a1 o3 ho3 ?_
  refine To.thenN (Wp.seq ?_)
  obtain ⟨r4, hr4, h⟩ := bind_of h
  refine rc [] 2 [0, 6] [] [(0, .str a0), (6, .str r4)] [] (ok_law10_spread n a0 o3 _ hr4) ?_
  refine To.thenN (Wp.seq (Wp.seq ?_))
  refine rg [0, 6, 28] [] [(0, .str a0), (6, .str r4), (28, vb (decide ((List.length r4 : Int) > 8000)))] [] ?_
  refine To.thenN ?_
  refine cn h (fun h => ?_) (fun h => ?_)
  ·refine Wp.seq ?_
   obtain ⟨r5, hr5, h⟩ := bind_of h
   refine rc [] 0 [4] [] [(4, vb r5)] [] (ok_law10_awake n  _ hr5) ?_
   refine To.thenN (Wp.ret (To.thenR ?_))
   cases h
   exact To.done hΓ (by kernel_rfl)
  ·refine Wp.skip (To.thenN (Wp.seq ?_))
   obtain ⟨r6, hr6, h⟩ := bind_of h
   refine rc [] 1 [6, 7, 9] [7] [(6, .str r4), (7, .own 7 0), (9, vi r6.2.2)] [(7, 28, qc9 r6.1)] (ok_block_Parse n a0 _ hr6) ?_
   refine To.thenN (Wp.seq ?_)
   obtain ⟨r7, hr7, h⟩ := bind_of h
   refine rc [] 1 [7, 9, 10, 12] [7, 10] [(7, .own 7 0), (9, vi r6.2.2), (10, .own 10 0), (12, vi r7.2.2)] [(7, 28, qc9 r6.1), (10, 28, qc9 r7.1)] (ok_block_Parse n r4 _ hr7) ?_
   refine To.thenN (Wp.seq ?_)
   obtain ⟨r8, hr8, h⟩ := bind_of h
   obtain ⟨r9, hr9, h⟩ := bind_of h
   refine rr [] [(2, vb r8), (9, vb r9)] [] [4] [] [(4, vb (bif (bif r8 then (r6.2.2 == r7.2.2) else false) then r9 else false))] [] [(true = true → CX Tryd.prog 8 [.agg (qc9 r6.1), .agg (qc9 r7.1)] (vb r8)), (((bif r8 then (r6.2.2 == r7.2.2) else false) == true) = true → CX Tryd.prog 5 [] (vb r9))] (AllP.cons (fun _ => cx (ok_ref08_Same n r6.1 r7.1 _ hr8)) (AllP.cons (fun hg => cx (ok_law10_awake n  _ (if_t hg hr9))) AllP.nil)) ?_
   refine To.thenN (Wp.ret ?_)
   cases h
   exact To.done hΓ (by kernel_rfl)
theorem opens_string : Opens Tryd.prog 9 (fun l : List UInt8 => l.length ≤ maxLen) (fun l => [.str l]) := opens_str (by kernel_rfl)
theorem opens_bool : Opens Tryd.prog 4 (fun _ : Bool => True) (fun b => [.val (.bool b)]) := RX.opens_bool (by kernel_rfl)
end Go.Proofs.YtefojkdckfidcaaDoor.M
