/-
  Printed by wip/tools/gen.py: models and walks of functions.
-/
import Derived.Test.YtljnmojkhajolaaDoorM13a
namespace Go.Proofs.YtljnmojkhajolaaDoor.M
open Go.RowKit Go.Proofs.YtljnmojkhajolaaDoor.RX
set_option maxRecDepth 100000
theorem ok_law13_taken_b (R_law13_taken : (List (S_tmpl_Part)) → Option ((List (S_ref13_Part)))) (hR_law13_taken : ∀ (a0 : List (S_tmpl_Part)) (r : (List (S_ref13_Part))), R_law13_taken a0 = some r → CallsX Tryd.prog 9 [.recs (α := S_tmpl_Part) (S_tmpl_Part.mk [] [] 0 []) E_tmpl_Part a0] (.recs (α := S_ref13_Part) (S_ref13_Part.mk [] [] 0 []) E_ref13_Part r)) (n : Nat) (a0 : List (S_tmpl_Part)) (r : (List (S_ref13_Part))) (h : law13_taken_b R_law13_taken n a0 = some r) : CallsX Tryd.prog 9 [.recs (α := S_tmpl_Part) (S_tmpl_Part.mk [] [] 0 []) E_tmpl_Part a0] (.recs (α := S_ref13_Part) (S_ref13_Part.mk [] [] 0 []) E_ref13_Part r) := by
  unfold law13_taken_b at h
  refine callsX_of (fn := Tryd.f9) (by kernel_rfl) rfl (by kernel_rfl) (Nat.le_of_ble_eq_true (by kernel_rfl)) fun F0 w0 _ => ?_
  refine Wp.keep (kk := [0]) (kl := []) (K' := [(0, .recs (α := S_tmpl_Part) (S_tmpl_Part.mk [] [] 0 []) E_tmpl_Part a0)]) (L' := []) (by kernel_rfl) (by kernel_rfl) ?_
  refine Wp.seq ?_
  refine Wp.region hΓ [] [] [] [0] [] (K' := [(0, .recs (α := S_tmpl_Part) (S_tmpl_Part.mk [] [] 0 []) E_tmpl_Part a0)]) (L' := []) (ob := []) (by kernel_rfl) AllP.nil ?_
  refine To.thenN ?_
  refine Wp.seq ?_
  refine Wp.region hΓ [] [(0, .recs (α := S_ref13_Part) (S_ref13_Part.mk [] [] 0 []) E_ref13_Part [])] [] [0, 3] [5] (K' := [(0, .recs (α := S_tmpl_Part) (S_tmpl_Part.mk [] [] 0 []) E_tmpl_Part a0), (3, .row 5)]) (L' := [(5, 58, [.rowc false (α := S_ref13_Part) (S_ref13_Part.mk [] [] 0 []) E_ref13_Part []])]) (ob := [(MkOb 4 [] 0 (.recs (α := S_ref13_Part) (S_ref13_Part.mk [] [] 0 []) E_ref13_Part []) ∧ GoodR (.recs (α := S_ref13_Part) (S_ref13_Part.mk [] [] 0 []) E_ref13_Part []))]) (by kernel_rfl) (AllP.cons (mkOb (by kernel_rfl) rfl (by kernel_rfl) (good_E_ref13_Part _)) AllP.nil) ?_
  refine To.thenN ?_
  refine Wp.seq ?_
  refine Wp.seq ?_
  refine Wp.region hΓ [] [] [] [0, 3, 4] [5] (K' := [(0, .recs (α := S_tmpl_Part) (S_tmpl_Part.mk [] [] 0 []) E_tmpl_Part a0), (3, .row 5), (4, .val (.int .i64 0))]) (L' := [(5, 58, [.rowc false (α := S_ref13_Part) (S_ref13_Part.mk [] [] 0 []) E_ref13_Part []])]) (ob := []) (by kernel_rfl) AllP.nil ?_
  refine To.thenN ?_
  refine Wp.block ?_
  obtain ⟨o1, ho1, h⟩ := bind_of h
  refine Wp.keep (kk := [0, 3, 4]) (kl := [5]) (K' := [(0, .recs (α := S_tmpl_Part) (S_tmpl_Part.mk [] [] 0 []) E_tmpl_Part a0), (3, .row 5), (4, .val (.int .i64 0))]) (L' := [(5, 58, [.rowc false (α := S_ref13_Part) (S_ref13_Part.mk [] [] 0 []) E_ref13_Part []])]) (by kernel_rfl) (by kernel_rfl) ?_
  refine Wp.pre (St.rename 5 1003 (by decide) (K' := [(0, .recs (α := S_tmpl_Part) (S_tmpl_Part.mk [] [] 0 []) E_tmpl_Part a0), (3, .row 1003), (4, .val (.int .i64 0))]) (L' := [(1003, 58, [.rowc false (α := S_ref13_Part) (S_ref13_Part.mk [] [] 0 []) E_ref13_Part []])]) (by kernel_rfl) (by kernel_rfl) (by kernel_rfl)) ?_
  refine Wp.keep (kk := [0, 3, 4]) (kl := [1003]) (K' := [(0, .recs (α := S_tmpl_Part) (S_tmpl_Part.mk [] [] 0 []) E_tmpl_Part a0), (3, .row 1003), (4, .val (.int .i64 0))]) (L' := [(1003, 58, [.rowc false (α := S_ref13_Part) (S_ref13_Part.mk [] [] 0 []) E_ref13_Part []])]) (by kernel_rfl) (by kernel_rfl) ?_
  refine Wp.loopL ?_
  refine ok_law13_taken_l1 R_law13_taken hR_law13_taken n a0 n ([] : List (S_ref13_Part)) 0 o1 ho1 ?_
  refine To.blockX ?_
  refine To.thenN ?_
  refine Wp.seq ?_
  refine Wp.region hΓ [] [] [] [2] [1003] (K' := [(2, .row 1003)]) (L' := [(1003, 58, [.rowc false (α := S_ref13_Part) (S_ref13_Part.mk [] [] 0 []) E_ref13_Part o1])]) (ob := []) (by kernel_rfl) AllP.nil ?_
  refine To.thenN ?_
  refine Wp.ret ?_
  refine To.keep (kk := [2]) (kl := [1003]) (K' := [(2, .row 1003)]) (L' := [(1003, 58, [.rowc false (α := S_ref13_Part) (S_ref13_Part.mk [] [] 0 []) E_ref13_Part o1])]) (by kernel_rfl) (by kernel_rfl) ?_
  refine To.pre (St.settle (ks := [1003]) (kk := [2]) (kl := [1003]) (K' := [(2, .row 1003)]) (L' := [(1003, 58, [.rowc true (α := S_ref13_Part) (S_ref13_Part.mk [] [] 0 []) E_ref13_Part o1])]) (by kernel_rfl)) ?_
  refine To.pre (St.sealK [2] (K' := [(2, .recs (α := S_ref13_Part) (S_ref13_Part.mk [] [] 0 []) E_ref13_Part o1)]) (by kernel_rfl)) ?_
  refine To.keep (kk := [2]) (kl := []) (K' := [(2, .recs (α := S_ref13_Part) (S_ref13_Part.mk [] [] 0 []) E_ref13_Part o1)]) (L' := []) (by kernel_rfl) (by kernel_rfl) ?_
  cases h
  exact To.done hΓ (by kernel_rfl)
def law13_taken : Nat → (List (S_tmpl_Part)) → Option ((List (S_ref13_Part)))
  | 0 => fun _ => none
  | n + 1 => law13_taken_b (law13_taken n) n
theorem ok_law13_taken (n : Nat) : ∀ (a0 : List (S_tmpl_Part)) (r : (List (S_ref13_Part))), law13_taken n a0 = some r → CallsX Tryd.prog 9 [.recs (α := S_tmpl_Part) (S_tmpl_Part.mk [] [] 0 []) E_tmpl_Part a0] (.recs (α := S_ref13_Part) (S_ref13_Part.mk [] [] 0 []) E_ref13_Part r) := by
  induction n with
  | zero => intro a0 r h; cases h
  | succ n ih => exact fun a0 r h => ok_law13_taken_b (law13_taken n) ih n a0 r h
def tmpl_Text_j3 (R_tmpl_Text : (List (S_tmpl_Part)) → Option ((List UInt8))) (n : Nat) (v6 : List (S_tmpl_Part)) (v7 : Int) (v8 : Int) (v30 : Bool) (b3 : List UInt8) (b5 : S_tmpl_Part) : Option ((List UInt8)) :=
  if v30 = true then ((tmpl_marks n).bind fun r6 =>
  if (decide (0 ≤ b5.f_Op ∧ b5.f_Op < (8 : Int))) = true then (if (decide (List.length r6 = 8)) = true then ((R_tmpl_Text b5.f_Sub).bind fun r7 =>
  if (decide (((List.length ((r6)[Int.toNat b5.f_Op]?.getD []) + List.length r7 : Nat) : Int) ≤ 9223372036854775807)) = true then (if (decide ((List.length b3 + List.length (((r6)[Int.toNat b5.f_Op]?.getD []) ++ r7)) * (1 + 1) ≤ limit)) = true then (some (b3 ++ (((r6)[Int.toNat b5.f_Op]?.getD []) ++ r7))) else none) else none) else none) else none)
  else some b3
theorem ok_tmpl_Text_j3 (R_tmpl_Text : (List (S_tmpl_Part)) → Option ((List UInt8))) (hR_tmpl_Text : ∀ (a0 : List (S_tmpl_Part)) (r : (List UInt8)), R_tmpl_Text a0 = some r → CallsX Tryd.prog 7 [.recs (α := S_tmpl_Part) (S_tmpl_Part.mk [] [] 0 []) E_tmpl_Part a0] (.str r)) (n : Nat) (v6 : List (S_tmpl_Part)) (v7 : Int) (v8 : Int) (v30 : Bool) (b3 : List UInt8) (b5 : S_tmpl_Part) (o : (List UInt8)) (h : tmpl_Text_j3 R_tmpl_Text n v6 v7 v8 v30 b3 b5 = some o) {F0 : Fz} {w0 : Pt Tryd.prog} {Q : Exit → Act → World → Prop} (hQ : To 43 F0 w0 [(3, .own 3 0), (6, .recs (α := S_tmpl_Part) (S_tmpl_Part.mk [] [] 0 []) E_tmpl_Part v6), (7, .val (.int .i64 v7)), (8, .val (.int .i64 v8))] [(3, 48, [.opt 3, .srow 4181]), (4181, 5, [.rowc false (α := UInt8) 0 e8 o])] .normal Q) : Wp Tryd.prog 43 F0 w0 [(3, .own 3 0), (5, .own 5 0), (6, .recs (α := S_tmpl_Part) (S_tmpl_Part.mk [] [] 0 []) E_tmpl_Part v6), (7, .val (.int .i64 v7)), (8, .val (.int .i64 v8)), (30, .val (.bool v30))] [(3, 48, [.opt 3, .srow 4181]), (5, 32, [.str b5.f_Name, .str b5.f_Text, .val (.int .i64 b5.f_Op), .tree (α := S_tmpl_Part) (S_tmpl_Part.mk [] [] 0 []) pre_S_tmpl_Part kids_S_tmpl_Part b5.f_Sub]), (4181, 5, [.rowc false (α := UInt8) 0 e8 b3])] (cB (cA (cB (cB (cB (cI (cA (cB (cB (cI (cI (cB (cA (cB (cB (cF Tryd.f7)))))))))))))))) Q := by
  unfold tmpl_Text_j3 at h
  refine Wp.cond (b := v30) (by kernel_rfl) (fun hb => ?_) (fun hb => ?_)
  · replace h := if_t hb h
    obtain ⟨r6, hr6, h⟩ := bind_of h
    obtain ⟨hc9, h⟩ := chk_of h
    obtain ⟨hc10, h⟩ := chk_of h
    obtain ⟨r7, hr7, h⟩ := bind_of h
    obtain ⟨hc11, h⟩ := chk_of h
    obtain ⟨u8, h⟩ := chk_of h
    refine Wp.regionS hm hΓ 7 [] [(0, .arr (α := List UInt8) [] E_string r6), (6, .str r7)] [(8, ⟨[(1000000, 3), (1000001, 4181)], [(1000000, 3), (1, 4181)], [.own 1000000 0, .str (((r6)[Int.toNat b5.f_Op]?.getD []) ++ r7)], [(1000000, 48, [.opt 1000000, .srow 1000001]), (1000001, 5, [.rowc false (α := UInt8) 0 e8 b3])], .tup [.val (.int .i64 (List.length (((r6)[Int.toNat b5.f_Op]?.getD []) ++ r7) : Int)), .val (.nilIface)], [(1000000, 48, [.opt 1000000, .srow 1]), (1, 5, [.rowc false (α := UInt8) 0 e8 (b3 ++ (((r6)[Int.toNat b5.f_Op]?.getD []) ++ r7))])]⟩)] [3, 6, 7, 8] [3, 4181] (K' := [(3, .own 3 0), (6, .recs (α := S_tmpl_Part) (S_tmpl_Part.mk [] [] 0 []) E_tmpl_Part v6), (7, .val (.int .i64 v7)), (8, .val (.int .i64 v8))]) (L' := [(3, 48, [.opt 3, .srow 4181]), (4181, 5, [.rowc false (α := UInt8) 0 e8 (b3 ++ (((r6)[Int.toNat b5.f_Op]?.getD []) ++ r7))])]) (ob := [(true = true → CX Tryd.prog 19 [] (.arr (α := List UInt8) [] E_string r6)), (decide (0 ≤ b5.f_Op ∧ b5.f_Op < (8 : Int))) = true, (decide (List.length r6 = 8)) = true, (true = true → CX Tryd.prog 7 [.recs (α := S_tmpl_Part) (S_tmpl_Part.mk [] [] 0 []) E_tmpl_Part b5.f_Sub] (.str r7)), (decide (((List.length ((r6)[Int.toNat b5.f_Op]?.getD []) + List.length r7 : Nat) : Int) ≤ 9223372036854775807)) = true, CbOb (CallsB Tryd.prog) 17 [.own 3 0, .str (((r6)[Int.toNat b5.f_Op]?.getD []) ++ r7)] [some (48, [.opt 3, .srow 4181]), some (5, [.rowc false (α := UInt8) 0 e8 b3])] ⟨[(1000000, 3), (1000001, 4181)], [(1000000, 3), (1, 4181)], [.own 1000000 0, .str (((r6)[Int.toNat b5.f_Op]?.getD []) ++ r7)], [(1000000, 48, [.opt 1000000, .srow 1000001]), (1000001, 5, [.rowc false (α := UInt8) 0 e8 b3])], .tup [.val (.int .i64 (List.length (((r6)[Int.toNat b5.f_Op]?.getD []) ++ r7) : Int)), .val (.nilIface)], [(1000000, 48, [.opt 1000000, .srow 1]), (1, 5, [.rowc false (α := UInt8) 0 e8 (b3 ++ (((r6)[Int.toNat b5.f_Op]?.getD []) ++ r7))])]⟩]) (by kernel_rfl) (AllP.cons (fun _ => cx (ok_tmpl_marks n  _ hr6)) (AllP.cons hc9 (AllP.cons hc10 (AllP.cons (fun _ => cx (hR_tmpl_Text b5.f_Sub _ hr7)) (AllP.cons hc11 (AllP.cons (⟨writeString (l := b3) (s := (((r6)[Int.toNat b5.f_Op]?.getD []) ++ r7)) u8, by kernel_rfl, by kernel_rfl⟩) AllP.nil)))))) ?_
    refine To.keep (kk := [3, 6, 7, 8]) (kl := [3, 4181]) (K' := [(3, .own 3 0), (6, .recs (α := S_tmpl_Part) (S_tmpl_Part.mk [] [] 0 []) E_tmpl_Part v6), (7, .val (.int .i64 v7)), (8, .val (.int .i64 v8))]) (L' := [(3, 48, [.opt 3, .srow 4181]), (4181, 5, [.rowc false (α := UInt8) 0 e8 (b3 ++ (((r6)[Int.toNat b5.f_Op]?.getD []) ++ r7))])]) (by kernel_rfl) (by kernel_rfl) ?_
    cases h
    exact hQ
  · replace h := if_f hb h
    refine Wp.skip ?_
    refine To.keep (kk := [3, 6, 7, 8]) (kl := [3, 4181]) (K' := [(3, .own 3 0), (6, .recs (α := S_tmpl_Part) (S_tmpl_Part.mk [] [] 0 []) E_tmpl_Part v6), (7, .val (.int .i64 v7)), (8, .val (.int .i64 v8))]) (L' := [(3, 48, [.opt 3, .srow 4181]), (4181, 5, [.rowc false (α := UInt8) 0 e8 b3])]) (by kernel_rfl) (by kernel_rfl) ?_
    cases h
    exact hQ
def tmpl_Text_j2 (R_tmpl_Text : (List (S_tmpl_Part)) → Option ((List UInt8))) (n : Nat) (v6 : List (S_tmpl_Part)) (v7 : Int) (v8 : Int) (b3 : List UInt8) : Option ((List UInt8)) :=
  if (decide (0 ≤ v8 ∧ v8 < (List.length v6 : Int))) = true then (if ((((v6)[Int.toNat v8]?.getD (S_tmpl_Part.mk [] [] 0 [])).f_Op) == 0) = true then (if (decide (List.length (((v6)[Int.toNat v8]?.getD (S_tmpl_Part.mk [] [] 0 [])).f_Text) < 4294967281 ∧ 1 ≤ List.length ([36] : List UInt8) ∧ List.length (((v6)[Int.toNat v8]?.getD (S_tmpl_Part.mk [] [] 0 [])).f_Text) + Lib.countB ⟨List.toArray (((v6)[Int.toNat v8]?.getD (S_tmpl_Part.mk [] [] 0 [])).f_Text)⟩ ⟨List.toArray ([36] : List UInt8)⟩ * List.length ([36, 36] : List UInt8) ≤ limit)) = true then (if (decide ((List.length b3 + List.length (Lib.replaceAll (((v6)[Int.toNat v8]?.getD (S_tmpl_Part.mk [] [] 0 [])).f_Text) ([36] : List UInt8) ([36, 36] : List UInt8))) * (1 + 1) ≤ limit)) = true then (lett ((b3 ++ (Lib.replaceAll (((v6)[Int.toNat v8]?.getD (S_tmpl_Part.mk [] [] 0 [])).f_Text) ([36] : List UInt8) ([36, 36] : List UInt8))) : List (UInt8)) fun x3 =>
  some x3) else none) else none)
  else (if (decide (((List.length ([36, 123] : List UInt8) + List.length (((v6)[Int.toNat v8]?.getD (S_tmpl_Part.mk [] [] 0 [])).f_Name) : Nat) : Int) ≤ 9223372036854775807)) = true then (if (decide ((List.length b3 + List.length (([36, 123] : List UInt8) ++ (((v6)[Int.toNat v8]?.getD (S_tmpl_Part.mk [] [] 0 [])).f_Name))) * (1 + 1) ≤ limit)) = true then (lett ((bif (decide ((((v6)[Int.toNat v8]?.getD (S_tmpl_Part.mk [] [] 0 [])).f_Op) > 1)) then (decide ((((v6)[Int.toNat v8]?.getD (S_tmpl_Part.mk [] [] 0 [])).f_Op) ≤ 7)) else false) : Bool) fun x5 =>
  (tmpl_Text_j3 R_tmpl_Text n v6 v7 v8 x5 (b3 ++ (([36, 123] : List UInt8) ++ (((v6)[Int.toNat v8]?.getD (S_tmpl_Part.mk [] [] 0 [])).f_Name))) (S_tmpl_Part.mk (((v6)[Int.toNat v8]?.getD (S_tmpl_Part.mk [] [] 0 [])).f_Name) (((v6)[Int.toNat v8]?.getD (S_tmpl_Part.mk [] [] 0 [])).f_Text) (((v6)[Int.toNat v8]?.getD (S_tmpl_Part.mk [] [] 0 [])).f_Op) (((v6)[Int.toNat v8]?.getD (S_tmpl_Part.mk [] [] 0 [])).f_Sub))).bind fun o6 =>
  if (decide ((List.length o6 + List.length ([125] : List UInt8)) * (1 + 1) ≤ limit)) = true then (some (o6 ++ ([125] : List UInt8))) else none) else none) else none)) else none
theorem ok_tmpl_Text_j2 (R_tmpl_Text : (List (S_tmpl_Part)) → Option ((List UInt8))) (hR_tmpl_Text : ∀ (a0 : List (S_tmpl_Part)) (r : (List UInt8)), R_tmpl_Text a0 = some r → CallsX Tryd.prog 7 [.recs (α := S_tmpl_Part) (S_tmpl_Part.mk [] [] 0 []) E_tmpl_Part a0] (.str r)) (n : Nat) (v6 : List (S_tmpl_Part)) (v7 : Int) (v8 : Int) (b3 : List UInt8) (o : (List UInt8)) (h : tmpl_Text_j2 R_tmpl_Text n v6 v7 v8 b3 = some o) {F0 : Fz} {w0 : Pt Tryd.prog} {Q : Exit → Act → World → Prop} (hQ : To 43 F0 w0 [(3, .own 3 0), (6, .recs (α := S_tmpl_Part) (S_tmpl_Part.mk [] [] 0 []) E_tmpl_Part v6), (7, .val (.int .i64 v7)), (8, .val (.int .i64 v8))] [(3, 48, [.opt 3, .srow 4181]), (4181, 5, [.rowc false (α := UInt8) 0 e8 o])] .normal Q) : Wp Tryd.prog 43 F0 w0 [(3, .own 3 0), (6, .recs (α := S_tmpl_Part) (S_tmpl_Part.mk [] [] 0 []) E_tmpl_Part v6), (7, .val (.int .i64 v7)), (8, .val (.int .i64 v8))] [(3, 48, [.opt 3, .srow 4181]), (4181, 5, [.rowc false (α := UInt8) 0 e8 b3])] (cA (cB (cB (cI (cI (cB (cA (cB (cB (cF Tryd.f7)))))))))) Q := by
  unfold tmpl_Text_j2 at h
  refine Wp.block ?_
  refine Wp.seq ?_
  obtain ⟨hc9, h⟩ := chk_of h
  refine Wp.region hΓ [] [] [] [3, 5, 6, 7, 8] [3, 5, 4181] (K' := [(3, .own 3 0), (5, .own 5 0), (6, .recs (α := S_tmpl_Part) (S_tmpl_Part.mk [] [] 0 []) E_tmpl_Part v6), (7, .val (.int .i64 v7)), (8, .val (.int .i64 v8))]) (L' := [(3, 48, [.opt 3, .srow 4181]), (5, 32, [.str (((v6)[Int.toNat v8]?.getD (S_tmpl_Part.mk [] [] 0 [])).f_Name), .str (((v6)[Int.toNat v8]?.getD (S_tmpl_Part.mk [] [] 0 [])).f_Text), .val (.int .i64 (((v6)[Int.toNat v8]?.getD (S_tmpl_Part.mk [] [] 0 [])).f_Op)), .tree (α := S_tmpl_Part) (S_tmpl_Part.mk [] [] 0 []) pre_S_tmpl_Part kids_S_tmpl_Part (((v6)[Int.toNat v8]?.getD (S_tmpl_Part.mk [] [] 0 [])).f_Sub)]), (4181, 5, [.rowc false (α := UInt8) 0 e8 b3])]) (ob := [(decide (0 ≤ v8 ∧ v8 < (List.length v6 : Int))) = true]) (by kernel_rfl) (AllP.cons hc9 AllP.nil) ?_
  refine To.thenN ?_
  refine Wp.seq ?_
  refine Wp.seq ?_
  refine Wp.region hΓ [] [] [] [3, 5, 6, 7, 8, 14] [3, 5, 4181] (K' := [(3, .own 3 0), (5, .own 5 0), (6, .recs (α := S_tmpl_Part) (S_tmpl_Part.mk [] [] 0 []) E_tmpl_Part v6), (7, .val (.int .i64 v7)), (8, .val (.int .i64 v8)), (14, .val (.bool ((((v6)[Int.toNat v8]?.getD (S_tmpl_Part.mk [] [] 0 [])).f_Op) == 0)))]) (L' := [(3, 48, [.opt 3, .srow 4181]), (5, 32, [.str (((v6)[Int.toNat v8]?.getD (S_tmpl_Part.mk [] [] 0 [])).f_Name), .str (((v6)[Int.toNat v8]?.getD (S_tmpl_Part.mk [] [] 0 [])).f_Text), .val (.int .i64 (((v6)[Int.toNat v8]?.getD (S_tmpl_Part.mk [] [] 0 [])).f_Op)), .tree (α := S_tmpl_Part) (S_tmpl_Part.mk [] [] 0 []) pre_S_tmpl_Part kids_S_tmpl_Part (((v6)[Int.toNat v8]?.getD (S_tmpl_Part.mk [] [] 0 [])).f_Sub)]), (4181, 5, [.rowc false (α := UInt8) 0 e8 b3])]) (ob := []) (by kernel_rfl) AllP.nil ?_
  refine To.thenN ?_
  refine Wp.cond (b := ((((v6)[Int.toNat v8]?.getD (S_tmpl_Part.mk [] [] 0 [])).f_Op) == 0)) (by kernel_rfl) (fun hb => ?_) (fun hb => ?_)
  · replace h := if_t hb h
    refine Wp.seq ?_
    obtain ⟨u1, h⟩ := chk_of h
    obtain ⟨u2, h⟩ := chk_of h
    obtain ⟨x3, hx3, h⟩ := lett_of h
    refine Wp.region hΓ [] [(2, .str (Lib.replaceAll (((v6)[Int.toNat v8]?.getD (S_tmpl_Part.mk [] [] 0 [])).f_Text) ([36] : List UInt8) ([36, 36] : List UInt8)))] [(3, ⟨[(1000000, 3), (1000001, 4181)], [(1000000, 3), (1, 4181)], [.own 1000000 0, .str (Lib.replaceAll (((v6)[Int.toNat v8]?.getD (S_tmpl_Part.mk [] [] 0 [])).f_Text) ([36] : List UInt8) ([36, 36] : List UInt8))], [(1000000, 48, [.opt 1000000, .srow 1000001]), (1000001, 5, [.rowc false (α := UInt8) 0 e8 b3])], .tup [.val (.int .i64 (List.length (Lib.replaceAll (((v6)[Int.toNat v8]?.getD (S_tmpl_Part.mk [] [] 0 [])).f_Text) ([36] : List UInt8) ([36, 36] : List UInt8)) : Int)), .val (.nilIface)], [(1000000, 48, [.opt 1000000, .srow 1]), (1, 5, [.rowc false (α := UInt8) 0 e8 (b3 ++ (Lib.replaceAll (((v6)[Int.toNat v8]?.getD (S_tmpl_Part.mk [] [] 0 [])).f_Text) ([36] : List UInt8) ([36, 36] : List UInt8)))])]⟩)] [3, 6, 7, 8] [3, 4181] (K' := [(3, .own 3 0), (6, .recs (α := S_tmpl_Part) (S_tmpl_Part.mk [] [] 0 []) E_tmpl_Part v6), (7, .val (.int .i64 v7)), (8, .val (.int .i64 v8))]) (L' := [(3, 48, [.opt 3, .srow 4181]), (4181, 5, [.rowc false (α := UInt8) 0 e8 (b3 ++ (Lib.replaceAll (((v6)[Int.toNat v8]?.getD (S_tmpl_Part.mk [] [] 0 [])).f_Text) ([36] : List UInt8) ([36, 36] : List UInt8)))])]) (ob := [(true = true → CX Tryd.prog 18 [.str (((v6)[Int.toNat v8]?.getD (S_tmpl_Part.mk [] [] 0 [])).f_Text), .str [36], .str [36, 36]] (.str (Lib.replaceAll (((v6)[Int.toNat v8]?.getD (S_tmpl_Part.mk [] [] 0 [])).f_Text) ([36] : List UInt8) ([36, 36] : List UInt8)))), CbOb (CallsB Tryd.prog) 17 [.own 3 0, .str (Lib.replaceAll (((v6)[Int.toNat v8]?.getD (S_tmpl_Part.mk [] [] 0 [])).f_Text) ([36] : List UInt8) ([36, 36] : List UInt8))] [some (48, [.opt 3, .srow 4181]), some (5, [.rowc false (α := UInt8) 0 e8 b3])] ⟨[(1000000, 3), (1000001, 4181)], [(1000000, 3), (1, 4181)], [.own 1000000 0, .str (Lib.replaceAll (((v6)[Int.toNat v8]?.getD (S_tmpl_Part.mk [] [] 0 [])).f_Text) ([36] : List UInt8) ([36, 36] : List UInt8))], [(1000000, 48, [.opt 1000000, .srow 1000001]), (1000001, 5, [.rowc false (α := UInt8) 0 e8 b3])], .tup [.val (.int .i64 (List.length (Lib.replaceAll (((v6)[Int.toNat v8]?.getD (S_tmpl_Part.mk [] [] 0 [])).f_Text) ([36] : List UInt8) ([36, 36] : List UInt8)) : Int)), .val (.nilIface)], [(1000000, 48, [.opt 1000000, .srow 1]), (1, 5, [.rowc false (α := UInt8) 0 e8 (b3 ++ (Lib.replaceAll (((v6)[Int.toNat v8]?.getD (S_tmpl_Part.mk [] [] 0 [])).f_Text) ([36] : List UInt8) ([36, 36] : List UInt8)))])]⟩]) (by kernel_rfl) (AllP.cons (fun _ => cx (Sh.replaceAll18 u1)) (AllP.cons (⟨writeString (l := b3) (s := (Lib.replaceAll (((v6)[Int.toNat v8]?.getD (S_tmpl_Part.mk [] [] 0 [])).f_Text) ([36] : List UInt8) ([36, 36] : List UInt8))) u2, by kernel_rfl, by kernel_rfl⟩) AllP.nil)) ?_
    refine To.eq (K' := [(3, .own 3 0), (6, .recs (α := S_tmpl_Part) (S_tmpl_Part.mk [] [] 0 []) E_tmpl_Part v6), (7, .val (.int .i64 v7)), (8, .val (.int .i64 v8))]) (L' := [(3, 48, [.opt 3, .srow 4181]), (4181, 5, [.rowc false (α := UInt8) 0 e8 x3])]) (by cases hx3; rfl) (by cases hx3; rfl) ?_
    refine To.thenN ?_
    refine Wp.exit ?_
    refine To.thenX ?_
    refine To.blockX ?_
    refine To.keep (kk := [3, 6, 7, 8]) (kl := [3, 4181]) (K' := [(3, .own 3 0), (6, .recs (α := S_tmpl_Part) (S_tmpl_Part.mk [] [] 0 []) E_tmpl_Part v6), (7, .val (.int .i64 v7)), (8, .val (.int .i64 v8))]) (L' := [(3, 48, [.opt 3, .srow 4181]), (4181, 5, [.rowc false (α := UInt8) 0 e8 x3])]) (by kernel_rfl) (by kernel_rfl) ?_
    cases h
    exact hQ
  · replace h := if_f hb h
    refine Wp.skip ?_
    refine To.thenN ?_
    refine Wp.seq ?_
    obtain ⟨hc8, h⟩ := chk_of h
    obtain ⟨u4, h⟩ := chk_of h
    refine Wp.region hΓ [] [] [(3, ⟨[(1000000, 3), (1000001, 4181)], [(1000000, 3), (1, 4181)], [.own 1000000 0, .str (([36, 123] : List UInt8) ++ (((v6)[Int.toNat v8]?.getD (S_tmpl_Part.mk [] [] 0 [])).f_Name))], [(1000000, 48, [.opt 1000000, .srow 1000001]), (1000001, 5, [.rowc false (α := UInt8) 0 e8 b3])], .tup [.val (.int .i64 (List.length (([36, 123] : List UInt8) ++ (((v6)[Int.toNat v8]?.getD (S_tmpl_Part.mk [] [] 0 [])).f_Name)) : Int)), .val (.nilIface)], [(1000000, 48, [.opt 1000000, .srow 1]), (1, 5, [.rowc false (α := UInt8) 0 e8 (b3 ++ (([36, 123] : List UInt8) ++ (((v6)[Int.toNat v8]?.getD (S_tmpl_Part.mk [] [] 0 [])).f_Name)))])]⟩)] [3, 5, 6, 7, 8] [3, 5, 4181] (K' := [(3, .own 3 0), (5, .own 5 0), (6, .recs (α := S_tmpl_Part) (S_tmpl_Part.mk [] [] 0 []) E_tmpl_Part v6), (7, .val (.int .i64 v7)), (8, .val (.int .i64 v8))]) (L' := [(3, 48, [.opt 3, .srow 4181]), (5, 32, [.str (((v6)[Int.toNat v8]?.getD (S_tmpl_Part.mk [] [] 0 [])).f_Name), .str (((v6)[Int.toNat v8]?.getD (S_tmpl_Part.mk [] [] 0 [])).f_Text), .val (.int .i64 (((v6)[Int.toNat v8]?.getD (S_tmpl_Part.mk [] [] 0 [])).f_Op)), .tree (α := S_tmpl_Part) (S_tmpl_Part.mk [] [] 0 []) pre_S_tmpl_Part kids_S_tmpl_Part (((v6)[Int.toNat v8]?.getD (S_tmpl_Part.mk [] [] 0 [])).f_Sub)]), (4181, 5, [.rowc false (α := UInt8) 0 e8 (b3 ++ (([36, 123] : List UInt8) ++ (((v6)[Int.toNat v8]?.getD (S_tmpl_Part.mk [] [] 0 [])).f_Name)))])]) (ob := [(decide (((List.length ([36, 123] : List UInt8) + List.length (((v6)[Int.toNat v8]?.getD (S_tmpl_Part.mk [] [] 0 [])).f_Name) : Nat) : Int) ≤ 9223372036854775807)) = true, CbOb (CallsB Tryd.prog) 17 [.own 3 0, .str (([36, 123] : List UInt8) ++ (((v6)[Int.toNat v8]?.getD (S_tmpl_Part.mk [] [] 0 [])).f_Name))] [some (48, [.opt 3, .srow 4181]), some (5, [.rowc false (α := UInt8) 0 e8 b3])] ⟨[(1000000, 3), (1000001, 4181)], [(1000000, 3), (1, 4181)], [.own 1000000 0, .str (([36, 123] : List UInt8) ++ (((v6)[Int.toNat v8]?.getD (S_tmpl_Part.mk [] [] 0 [])).f_Name))], [(1000000, 48, [.opt 1000000, .srow 1000001]), (1000001, 5, [.rowc false (α := UInt8) 0 e8 b3])], .tup [.val (.int .i64 (List.length (([36, 123] : List UInt8) ++ (((v6)[Int.toNat v8]?.getD (S_tmpl_Part.mk [] [] 0 [])).f_Name)) : Int)), .val (.nilIface)], [(1000000, 48, [.opt 1000000, .srow 1]), (1, 5, [.rowc false (α := UInt8) 0 e8 (b3 ++ (([36, 123] : List UInt8) ++ (((v6)[Int.toNat v8]?.getD (S_tmpl_Part.mk [] [] 0 [])).f_Name)))])]⟩]) (by kernel_rfl) (AllP.cons hc8 (AllP.cons (⟨writeString (l := b3) (s := (([36, 123] : List UInt8) ++ (((v6)[Int.toNat v8]?.getD (S_tmpl_Part.mk [] [] 0 [])).f_Name))) u4, by kernel_rfl, by kernel_rfl⟩) AllP.nil)) ?_
    refine To.thenN ?_
    refine Wp.seq ?_
    refine Wp.seq ?_
    obtain ⟨x5, hx5, h⟩ := lett_of h
    refine Wp.region hΓ [] [] [] [3, 5, 6, 7, 8, 30] [3, 5, 4181] (K' := [(3, .own 3 0), (5, .own 5 0), (6, .recs (α := S_tmpl_Part) (S_tmpl_Part.mk [] [] 0 []) E_tmpl_Part v6), (7, .val (.int .i64 v7)), (8, .val (.int .i64 v8)), (30, .val (.bool (bif (decide ((((v6)[Int.toNat v8]?.getD (S_tmpl_Part.mk [] [] 0 [])).f_Op) > 1)) then (decide ((((v6)[Int.toNat v8]?.getD (S_tmpl_Part.mk [] [] 0 [])).f_Op) ≤ 7)) else false)))]) (L' := [(3, 48, [.opt 3, .srow 4181]), (5, 32, [.str (((v6)[Int.toNat v8]?.getD (S_tmpl_Part.mk [] [] 0 [])).f_Name), .str (((v6)[Int.toNat v8]?.getD (S_tmpl_Part.mk [] [] 0 [])).f_Text), .val (.int .i64 (((v6)[Int.toNat v8]?.getD (S_tmpl_Part.mk [] [] 0 [])).f_Op)), .tree (α := S_tmpl_Part) (S_tmpl_Part.mk [] [] 0 []) pre_S_tmpl_Part kids_S_tmpl_Part (((v6)[Int.toNat v8]?.getD (S_tmpl_Part.mk [] [] 0 [])).f_Sub)]), (4181, 5, [.rowc false (α := UInt8) 0 e8 (b3 ++ (([36, 123] : List UInt8) ++ (((v6)[Int.toNat v8]?.getD (S_tmpl_Part.mk [] [] 0 [])).f_Name)))])]) (ob := []) (by kernel_rfl) AllP.nil ?_
    refine To.eq (K' := [(3, .own 3 0), (5, .own 5 0), (6, .recs (α := S_tmpl_Part) (S_tmpl_Part.mk [] [] 0 []) E_tmpl_Part v6), (7, .val (.int .i64 v7)), (8, .val (.int .i64 v8)), (30, .val (.bool x5))]) (L' := [(3, 48, [.opt 3, .srow 4181]), (5, 32, [.str (((v6)[Int.toNat v8]?.getD (S_tmpl_Part.mk [] [] 0 [])).f_Name), .str (((v6)[Int.toNat v8]?.getD (S_tmpl_Part.mk [] [] 0 [])).f_Text), .val (.int .i64 (((v6)[Int.toNat v8]?.getD (S_tmpl_Part.mk [] [] 0 [])).f_Op)), .tree (α := S_tmpl_Part) (S_tmpl_Part.mk [] [] 0 []) pre_S_tmpl_Part kids_S_tmpl_Part (((v6)[Int.toNat v8]?.getD (S_tmpl_Part.mk [] [] 0 [])).f_Sub)]), (4181, 5, [.rowc false (α := UInt8) 0 e8 (b3 ++ (([36, 123] : List UInt8) ++ (((v6)[Int.toNat v8]?.getD (S_tmpl_Part.mk [] [] 0 [])).f_Name)))])]) (by cases hx5; rfl) (by cases hx5; rfl) ?_
    refine To.thenN ?_
    obtain ⟨o6, ho6, h⟩ := bind_of h
    refine Wp.keep (kk := [3, 5, 6, 7, 8, 30]) (kl := [3, 5, 4181]) (K' := [(3, .own 3 0), (5, .own 5 0), (6, .recs (α := S_tmpl_Part) (S_tmpl_Part.mk [] [] 0 []) E_tmpl_Part v6), (7, .val (.int .i64 v7)), (8, .val (.int .i64 v8)), (30, .val (.bool x5))]) (L' := [(3, 48, [.opt 3, .srow 4181]), (5, 32, [.str (((v6)[Int.toNat v8]?.getD (S_tmpl_Part.mk [] [] 0 [])).f_Name), .str (((v6)[Int.toNat v8]?.getD (S_tmpl_Part.mk [] [] 0 [])).f_Text), .val (.int .i64 (((v6)[Int.toNat v8]?.getD (S_tmpl_Part.mk [] [] 0 [])).f_Op)), .tree (α := S_tmpl_Part) (S_tmpl_Part.mk [] [] 0 []) pre_S_tmpl_Part kids_S_tmpl_Part (((v6)[Int.toNat v8]?.getD (S_tmpl_Part.mk [] [] 0 [])).f_Sub)]), (4181, 5, [.rowc false (α := UInt8) 0 e8 (b3 ++ (([36, 123] : List UInt8) ++ (((v6)[Int.toNat v8]?.getD (S_tmpl_Part.mk [] [] 0 [])).f_Name)))])]) (by kernel_rfl) (by kernel_rfl) ?_
    refine ok_tmpl_Text_j3 R_tmpl_Text hR_tmpl_Text n v6 v7 v8 x5 (b3 ++ (([36, 123] : List UInt8) ++ (((v6)[Int.toNat v8]?.getD (S_tmpl_Part.mk [] [] 0 [])).f_Name))) (S_tmpl_Part.mk (((v6)[Int.toNat v8]?.getD (S_tmpl_Part.mk [] [] 0 [])).f_Name) (((v6)[Int.toNat v8]?.getD (S_tmpl_Part.mk [] [] 0 [])).f_Text) (((v6)[Int.toNat v8]?.getD (S_tmpl_Part.mk [] [] 0 [])).f_Op) (((v6)[Int.toNat v8]?.getD (S_tmpl_Part.mk [] [] 0 [])).f_Sub)) o6 ho6 ?_
    refine To.thenN ?_
    obtain ⟨u7, h⟩ := chk_of h
    refine Wp.region hΓ [] [] [(0, ⟨[(1000000, 3), (1000001, 4181)], [(1000000, 3), (1, 4181)], [.own 1000000 0, .str [125]], [(1000000, 48, [.opt 1000000, .srow 1000001]), (1000001, 5, [.rowc false (α := UInt8) 0 e8 o6])], .tup [.val (.int .i64 (List.length ([125] : List UInt8) : Int)), .val (.nilIface)], [(1000000, 48, [.opt 1000000, .srow 1]), (1, 5, [.rowc false (α := UInt8) 0 e8 (o6 ++ ([125] : List UInt8))])]⟩)] [3, 6, 7, 8] [3, 4181] (K' := [(3, .own 3 0), (6, .recs (α := S_tmpl_Part) (S_tmpl_Part.mk [] [] 0 []) E_tmpl_Part v6), (7, .val (.int .i64 v7)), (8, .val (.int .i64 v8))]) (L' := [(3, 48, [.opt 3, .srow 4181]), (4181, 5, [.rowc false (α := UInt8) 0 e8 (o6 ++ ([125] : List UInt8))])]) (ob := [CbOb (CallsB Tryd.prog) 17 [.own 3 0, .str [125]] [some (48, [.opt 3, .srow 4181]), some (5, [.rowc false (α := UInt8) 0 e8 o6])] ⟨[(1000000, 3), (1000001, 4181)], [(1000000, 3), (1, 4181)], [.own 1000000 0, .str [125]], [(1000000, 48, [.opt 1000000, .srow 1000001]), (1000001, 5, [.rowc false (α := UInt8) 0 e8 o6])], .tup [.val (.int .i64 (List.length ([125] : List UInt8) : Int)), .val (.nilIface)], [(1000000, 48, [.opt 1000000, .srow 1]), (1, 5, [.rowc false (α := UInt8) 0 e8 (o6 ++ ([125] : List UInt8))])]⟩]) (by kernel_rfl) (AllP.cons (⟨writeString (l := o6) (s := ([125] : List UInt8)) u7, by kernel_rfl, by kernel_rfl⟩) AllP.nil) ?_
    refine To.blockN ?_
    refine To.keep (kk := [3, 6, 7, 8]) (kl := [3, 4181]) (K' := [(3, .own 3 0), (6, .recs (α := S_tmpl_Part) (S_tmpl_Part.mk [] [] 0 []) E_tmpl_Part v6), (7, .val (.int .i64 v7)), (8, .val (.int .i64 v8))]) (L' := [(3, 48, [.opt 3, .srow 4181]), (4181, 5, [.rowc false (α := UInt8) 0 e8 (o6 ++ ([125] : List UInt8))])]) (by kernel_rfl) (by kernel_rfl) ?_
    cases h
    exact hQ
def tmpl_Text_l1 (R_tmpl_Text : (List (S_tmpl_Part)) → Option ((List UInt8))) (n : Nat) (v6 : List (S_tmpl_Part)) (v7 : Int) : Nat → Int → (List UInt8) → Option ((List UInt8))
  | 0, _, _ => none
  | k + 1, v8, b3 => if (decide (v8 < v7)) = true then ((tmpl_Text_j2 R_tmpl_Text n v6 v7 v8 b3).bind fun o1 =>
  tmpl_Text_l1 R_tmpl_Text n v6 v7 k (IntKind.wrap .i64 (v8 + 1)) o1)
  else some b3
theorem ok_tmpl_Text_l1 (R_tmpl_Text : (List (S_tmpl_Part)) → Option ((List UInt8))) (hR_tmpl_Text : ∀ (a0 : List (S_tmpl_Part)) (r : (List UInt8)), R_tmpl_Text a0 = some r → CallsX Tryd.prog 7 [.recs (α := S_tmpl_Part) (S_tmpl_Part.mk [] [] 0 []) E_tmpl_Part a0] (.str r)) (n : Nat) (v6 : List (S_tmpl_Part)) (v7 : Int) {F0 : Fz} {w0 : Pt Tryd.prog} {Q : Exit → Act → World → Prop} (k : Nat) : ∀ (v8 : Int) (b3 : List UInt8) (o : (List UInt8)), tmpl_Text_l1 R_tmpl_Text n v6 v7 k v8 b3 = some o → To 43 F0 w0 [(3, .own 3 0)] [(3, 48, [.opt 3, .srow 4181]), (4181, 5, [.rowc false (α := UInt8) 0 e8 o])] (.exit 0) Q → WL Tryd.prog 43 F0 w0 [(3, .own 3 0), (6, .recs (α := S_tmpl_Part) (S_tmpl_Part.mk [] [] 0 []) E_tmpl_Part v6), (7, .val (.int .i64 v7)), (8, .val (.int .i64 v8))] [(3, 48, [.opt 3, .srow 4181]), (4181, 5, [.rowc false (α := UInt8) 0 e8 b3])] (cI (cI (cB (cA (cB (cB (cF Tryd.f7))))))) Q := by
  induction k with
  | zero => intro v8 b3 o h; cases h
  | succ k ih =>
    intro v8 b3 o h hQ
    rw [tmpl_Text_l1] at h
    refine WL.round ?_
    refine Wp.seq ?_
    refine Wp.region hΓ [] [] [] [3, 6, 7, 8, 9] [3, 4181] (K' := [(3, .own 3 0), (6, .recs (α := S_tmpl_Part) (S_tmpl_Part.mk [] [] 0 []) E_tmpl_Part v6), (7, .val (.int .i64 v7)), (8, .val (.int .i64 v8)), (9, .val (.bool (decide (v8 < v7))))]) (L' := [(3, 48, [.opt 3, .srow 4181]), (4181, 5, [.rowc false (α := UInt8) 0 e8 b3])]) (ob := []) (by kernel_rfl) AllP.nil ?_
    refine To.thenN ?_
    refine Wp.seq ?_
    refine Wp.cond (b := (decide (v8 < v7))) (by kernel_rfl) (fun hb => ?_) (fun hb => ?_)
    · replace h := if_t hb h
      refine Wp.skip ?_
      refine To.thenN ?_
      refine Wp.seq ?_
      obtain ⟨o1, ho1, h⟩ := bind_of h
      refine Wp.keep (kk := [3, 6, 7, 8]) (kl := [3, 4181]) (K' := [(3, .own 3 0), (6, .recs (α := S_tmpl_Part) (S_tmpl_Part.mk [] [] 0 []) E_tmpl_Part v6), (7, .val (.int .i64 v7)), (8, .val (.int .i64 v8))]) (L' := [(3, 48, [.opt 3, .srow 4181]), (4181, 5, [.rowc false (α := UInt8) 0 e8 b3])]) (by kernel_rfl) (by kernel_rfl) ?_
      refine ok_tmpl_Text_j2 R_tmpl_Text hR_tmpl_Text n v6 v7 v8 b3 o1 ho1 ?_
      refine To.thenN ?_
      refine Wp.region hΓ [] [] [] [3, 6, 7, 8] [3, 4181] (K' := [(3, .own 3 0), (6, .recs (α := S_tmpl_Part) (S_tmpl_Part.mk [] [] 0 []) E_tmpl_Part v6), (7, .val (.int .i64 v7)), (8, .val (.int .i64 (IntKind.wrap .i64 (v8 + 1))))]) (L' := [(3, 48, [.opt 3, .srow 4181]), (4181, 5, [.rowc false (α := UInt8) 0 e8 o1])]) (ob := []) (by kernel_rfl) AllP.nil ?_
      refine To.keep (kk := [3, 6, 7, 8]) (kl := [3, 4181]) (K' := [(3, .own 3 0), (6, .recs (α := S_tmpl_Part) (S_tmpl_Part.mk [] [] 0 []) E_tmpl_Part v6), (7, .val (.int .i64 v7)), (8, .val (.int .i64 (IntKind.wrap .i64 (v8 + 1))))]) (L' := [(3, 48, [.opt 3, .srow 4181]), (4181, 5, [.rowc false (α := UInt8) 0 e8 o1])]) (by kernel_rfl) (by kernel_rfl) ?_
      refine To.again ?_
      exact ih (IntKind.wrap .i64 (v8 + 1)) o1 _ h hQ
    · replace h := if_f hb h
      refine Wp.exit ?_
      refine To.thenX ?_
      refine To.thenX ?_
      refine To.keep (kk := [3]) (kl := [3, 4181]) (K' := [(3, .own 3 0)]) (L' := [(3, 48, [.opt 3, .srow 4181]), (4181, 5, [.rowc false (α := UInt8) 0 e8 b3])]) (by kernel_rfl) (by kernel_rfl) ?_
      cases h
      exact hQ
def tmpl_Text_b (R_tmpl_Text : (List (S_tmpl_Part)) → Option ((List UInt8))) (n : Nat) (a0 : List (S_tmpl_Part)) : Option ((List UInt8)) :=
  (tmpl_Text_l1 R_tmpl_Text n a0 (List.length a0 : Int) n 0 ([] : List (UInt8))).bind fun o1 =>
  some o1
theorem ok_tmpl_Text_b (R_tmpl_Text : (List (S_tmpl_Part)) → Option ((List UInt8))) (hR_tmpl_Text : ∀ (a0 : List (S_tmpl_Part)) (r : (List UInt8)), R_tmpl_Text a0 = some r → CallsX Tryd.prog 7 [.recs (α := S_tmpl_Part) (S_tmpl_Part.mk [] [] 0 []) E_tmpl_Part a0] (.str r)) (n : Nat) (a0 : List (S_tmpl_Part)) (r : (List UInt8)) (h : tmpl_Text_b R_tmpl_Text n a0 = some r) : CallsX Tryd.prog 7 [.recs (α := S_tmpl_Part) (S_tmpl_Part.mk [] [] 0 []) E_tmpl_Part a0] (.str r) := by
  unfold tmpl_Text_b at h
  refine callsX_of (fn := Tryd.f7) (by kernel_rfl) rfl (by kernel_rfl) (Nat.le_of_ble_eq_true (by kernel_rfl)) fun F0 w0 _ => ?_
  refine Wp.keep (kk := [0]) (kl := []) (K' := [(0, .recs (α := S_tmpl_Part) (S_tmpl_Part.mk [] [] 0 []) E_tmpl_Part a0)]) (L' := []) (by kernel_rfl) (by kernel_rfl) ?_
  refine Wp.seq ?_
  refine Wp.region hΓ [] [] [] [0] [] (K' := [(0, .recs (α := S_tmpl_Part) (S_tmpl_Part.mk [] [] 0 []) E_tmpl_Part a0)]) (L' := []) (ob := []) (by kernel_rfl) AllP.nil ?_
  refine To.thenN ?_
  refine Wp.seq ?_
  refine Wp.region hΓ [] [] [] [0, 3] [3] (K' := [(0, .recs (α := S_tmpl_Part) (S_tmpl_Part.mk [] [] 0 []) E_tmpl_Part a0), (3, .own 3 0)]) (L' := [(3, 48, [.val (.pointer none), .val (.slice none 0 0)])]) (ob := []) (by kernel_rfl) AllP.nil ?_
  refine To.pre (St.builderB 3 4181 5 (by decide) (by kernel_rfl) (L' := [(3, 48, [.opt 3, .srow 4181])]) (by kernel_rfl)) ?_
  refine To.thenN ?_
  refine Wp.seq ?_
  refine Wp.seq ?_
  refine Wp.region hΓ [] [] [] [3, 6, 7, 8] [3, 4181] (K' := [(3, .own 3 0), (6, .recs (α := S_tmpl_Part) (S_tmpl_Part.mk [] [] 0 []) E_tmpl_Part a0), (7, .val (.int .i64 (List.length a0 : Int))), (8, .val (.int .i64 0))]) (L' := [(3, 48, [.opt 3, .srow 4181]), (4181, 5, [.rowc false (α := UInt8) 0 e8 []])]) (ob := []) (by kernel_rfl) AllP.nil ?_
  refine To.thenN ?_
  refine Wp.block ?_
  obtain ⟨o1, ho1, h⟩ := bind_of h
  refine Wp.keep (kk := [3, 6, 7, 8]) (kl := [3, 4181]) (K' := [(3, .own 3 0), (6, .recs (α := S_tmpl_Part) (S_tmpl_Part.mk [] [] 0 []) E_tmpl_Part a0), (7, .val (.int .i64 (List.length a0 : Int))), (8, .val (.int .i64 0))]) (L' := [(3, 48, [.opt 3, .srow 4181]), (4181, 5, [.rowc false (α := UInt8) 0 e8 []])]) (by kernel_rfl) (by kernel_rfl) ?_
  refine Wp.loopL ?_
  refine ok_tmpl_Text_l1 R_tmpl_Text hR_tmpl_Text n a0 (List.length a0 : Int) n 0 ([] : List (UInt8)) o1 ho1 ?_
  refine To.blockX ?_
  refine To.thenN ?_
  refine Wp.seq ?_
  refine Wp.region hΓ [] [] [(0, ⟨[(1000000, 3), (1000001, 4181)], [(1000000, 3)], [.own 1000000 0], [(1000000, 48, [.opt 1000000, .srow 1000001]), (1000001, 5, [.rowc false (α := UInt8) 0 e8 o1])], .str o1, [(1000000, 48, [.opt 1000000, .hole])]⟩)] [2] [] (K' := [(2, .str o1)]) (L' := []) (ob := [CbOb (CallsB Tryd.prog) 20 [.own 3 0] [some (48, [.opt 3, .srow 4181]), some (5, [.rowc false (α := UInt8) 0 e8 o1])] ⟨[(1000000, 3), (1000001, 4181)], [(1000000, 3)], [.own 1000000 0], [(1000000, 48, [.opt 1000000, .srow 1000001]), (1000001, 5, [.rowc false (α := UInt8) 0 e8 o1])], .str o1, [(1000000, 48, [.opt 1000000, .hole])]⟩]) (by kernel_rfl) (AllP.cons (⟨bstring (l := o1), by kernel_rfl, by kernel_rfl⟩) AllP.nil) ?_
  refine To.thenN ?_
  refine Wp.ret ?_
  refine To.keep (kk := [2]) (kl := []) (K' := [(2, .str o1)]) (L' := []) (by kernel_rfl) (by kernel_rfl) ?_
  cases h
  exact To.done hΓ (by kernel_rfl)
def tmpl_Text : Nat → (List (S_tmpl_Part)) → Option ((List UInt8))
  | 0 => fun _ => none
  | n + 1 => tmpl_Text_b (tmpl_Text n) n
theorem ok_tmpl_Text (n : Nat) : ∀ (a0 : List (S_tmpl_Part)) (r : (List UInt8)), tmpl_Text n a0 = some r → CallsX Tryd.prog 7 [.recs (α := S_tmpl_Part) (S_tmpl_Part.mk [] [] 0 []) E_tmpl_Part a0] (.str r) := by
  induction n with
  | zero => intro a0 r h; cases h
  | succ n ih => exact fun a0 r h => ok_tmpl_Text_b (tmpl_Text n) ih n a0 r h
def ref13_mark (n : Nat) (a0 : Int) : Option ((List UInt8)) :=
  if (bif (decide (a0 < 0)) then true else (decide (a0 > 7))) = true then (some [])
  else (if (decide (0 ≤ a0 ∧ a0 < (List.length ([[], [], [58, 45], [45], [58, 63], [63], [58, 43], [43]] : List (List UInt8)) : Int))) = true then (some (([[], [], [58, 45], [45], [58, 63], [63], [58, 43], [43]])[Int.toNat a0]?.getD [])) else none)
theorem ok_ref13_mark (n : Nat) (a0 : Int) (r : (List UInt8)) (h : ref13_mark n a0 = some r) : CallsX Tryd.prog 21 [.val (.int .i64 a0)] (.str r) := by
  unfold ref13_mark at h
  refine callsX_of (fn := Tryd.f21) (by kernel_rfl) rfl (by kernel_rfl) (Nat.le_of_ble_eq_true (by kernel_rfl)) fun F0 w0 _ => ?_
  refine Wp.keep (kk := [0]) (kl := []) (K' := [(0, .val (.int .i64 a0))]) (L' := []) (by kernel_rfl) (by kernel_rfl) ?_
  refine Wp.seq ?_
  refine Wp.region hΓ [] [] [] [0] [] (K' := [(0, .val (.int .i64 a0))]) (L' := []) (ob := []) (by kernel_rfl) AllP.nil ?_
  refine To.thenN ?_
  refine Wp.seq ?_
  refine Wp.region hΓ [] [(0, .recs (α := List UInt8) [] E_string ([[], [], [58, 45], [45], [58, 63], [63], [58, 43], [43]]))] [] [0, 3] [4] (K' := [(0, .val (.int .i64 a0)), (3, .row 4)]) (L' := [(4, 9, [.rowc false (α := List UInt8) [] E_string ([[], [], [58, 45], [45], [58, 63], [63], [58, 43], [43]])])]) (ob := [(MkOb 1 [.str [], .str [], .str [58, 45], .str [45], .str [58, 63], .str [63], .str [58, 43], .str [43]] 8 (.recs (α := List UInt8) [] E_string ([[], [], [58, 45], [45], [58, 63], [63], [58, 43], [43]])) ∧ GoodR (.recs (α := List UInt8) [] E_string ([[], [], [58, 45], [45], [58, 63], [63], [58, 43], [43]])))]) (by kernel_rfl) (AllP.cons (mkOb (by kernel_rfl) rfl (by kernel_rfl) (good_E_string _)) AllP.nil) ?_
  refine To.thenN ?_
  refine Wp.seq ?_
  refine Wp.seq ?_
  refine Wp.region hΓ [] [] [] [0, 3, 10] [4] (K' := [(0, .val (.int .i64 a0)), (3, .row 4), (10, .val (.bool (bif (decide (a0 < 0)) then true else (decide (a0 > 7)))))]) (L' := [(4, 9, [.rowc false (α := List UInt8) [] E_string ([[], [], [58, 45], [45], [58, 63], [63], [58, 43], [43]])])]) (ob := []) (by kernel_rfl) AllP.nil ?_
  refine To.thenN ?_
  refine Wp.cond (b := (bif (decide (a0 < 0)) then true else (decide (a0 > 7)))) (by kernel_rfl) (fun hb => ?_) (fun hb => ?_)
  · replace h := if_t hb h
    refine Wp.seq ?_
    refine Wp.region hΓ [] [] [] [2] [] (K' := [(2, .str [])]) (L' := []) (ob := []) (by kernel_rfl) AllP.nil ?_
    refine To.thenN ?_
    refine Wp.ret ?_
    refine To.thenR ?_
    refine To.keep (kk := [2]) (kl := []) (K' := [(2, .str [])]) (L' := []) (by kernel_rfl) (by kernel_rfl) ?_
    cases h
    exact To.done hΓ (by kernel_rfl)
  · replace h := if_f hb h
    refine Wp.skip ?_
    refine To.thenN ?_
    refine Wp.seq ?_
    obtain ⟨hc1, h⟩ := chk_of h
    refine Wp.region hΓ [] [] [] [2] [] (K' := [(2, .str (([[], [], [58, 45], [45], [58, 63], [63], [58, 43], [43]])[Int.toNat a0]?.getD []))]) (L' := []) (ob := [(decide (0 ≤ a0 ∧ a0 < (List.length ([[], [], [58, 45], [45], [58, 63], [63], [58, 43], [43]] : List (List UInt8)) : Int))) = true, (decide (0 ≤ a0 ∧ a0 < (List.length ([[], [], [58, 45], [45], [58, 63], [63], [58, 43], [43]] : List (List UInt8)) : Int))) = true]) (by kernel_rfl) (AllP.cons hc1 (AllP.cons hc1 AllP.nil)) ?_
    refine To.thenN ?_
    refine Wp.ret ?_
    refine To.keep (kk := [2]) (kl := []) (K' := [(2, .str (([[], [], [58, 45], [45], [58, 63], [63], [58, 43], [43]])[Int.toNat a0]?.getD []))]) (L' := []) (by kernel_rfl) (by kernel_rfl) ?_
    cases h
    exact To.done hΓ (by kernel_rfl)
def ref13_Text_j5 (R_ref13_Text : (List (S_ref13_Part)) → Option ((List UInt8))) (n : Nat) (v0 : List (S_ref13_Part)) (v3 : List UInt8) (v4 : Int) (v6 : Int) (v31 : Bool) (b5 : S_ref13_Part) : Option ((List UInt8)) :=
  if v31 = true then (if (decide (((List.length v3 + List.length ([36] : List UInt8) : Nat) : Int) ≤ 9223372036854775807)) = true then (some (v3 ++ [36])) else none)
  else some v3
theorem ok_ref13_Text_j5 (R_ref13_Text : (List (S_ref13_Part)) → Option ((List UInt8))) (hR_ref13_Text : ∀ (a0 : List (S_ref13_Part)) (r : (List UInt8)), R_ref13_Text a0 = some r → CallsX Tryd.prog 10 [.recs (α := S_ref13_Part) (S_ref13_Part.mk [] [] 0 []) E_ref13_Part a0] (.str r)) (n : Nat) (v0 : List (S_ref13_Part)) (v3 : List UInt8) (v4 : Int) (v6 : Int) (v31 : Bool) (b5 : S_ref13_Part) (o : (List UInt8)) (h : ref13_Text_j5 R_ref13_Text n v0 v3 v4 v6 v31 b5 = some o) {F0 : Fz} {w0 : Pt Tryd.prog} {Q : Exit → Act → World → Prop} (hQ : To 63 F0 w0 [(0, .recs (α := S_ref13_Part) (S_ref13_Part.mk [] [] 0 []) E_ref13_Part v0), (3, .str o), (4, .val (.int .i64 v4)), (5, .own 5 0), (6, .val (.int .i64 v6))] [(5, 58, [.str b5.f_Name, .str b5.f_Text, .val (.int .i64 b5.f_Op), .tree (α := S_ref13_Part) (S_ref13_Part.mk [] [] 0 []) pre_S_ref13_Part kids_S_ref13_Part b5.f_Sub])] .normal Q) : Wp Tryd.prog 63 F0 w0 [(0, .recs (α := S_ref13_Part) (S_ref13_Part.mk [] [] 0 []) E_ref13_Part v0), (3, .str v3), (4, .val (.int .i64 v4)), (5, .own 5 0), (6, .val (.int .i64 v6)), (31, .val (.bool v31))] [(5, 58, [.str b5.f_Name, .str b5.f_Text, .val (.int .i64 b5.f_Op), .tree (α := S_ref13_Part) (S_ref13_Part.mk [] [] 0 []) pre_S_ref13_Part kids_S_ref13_Part b5.f_Sub])] (cB (cA (cI (cA (cB (cI (cI (cB (cT (cB (cB (cI (cA (cB (cI (cI (cB (cA (cB (cB (cF Tryd.f10))))))))))))))))))))) Q := by
  unfold ref13_Text_j5 at h
  refine Wp.cond (b := v31) (by kernel_rfl) (fun hb => ?_) (fun hb => ?_)
  · replace h := if_t hb h
    obtain ⟨hc1, h⟩ := chk_of h
    refine Wp.region hΓ [] [] [] [0, 3, 4, 5, 6] [5] (K' := [(0, .recs (α := S_ref13_Part) (S_ref13_Part.mk [] [] 0 []) E_ref13_Part v0), (3, .str (v3 ++ [36])), (4, .val (.int .i64 v4)), (5, .own 5 0), (6, .val (.int .i64 v6))]) (L' := [(5, 58, [.str b5.f_Name, .str b5.f_Text, .val (.int .i64 b5.f_Op), .tree (α := S_ref13_Part) (S_ref13_Part.mk [] [] 0 []) pre_S_ref13_Part kids_S_ref13_Part b5.f_Sub])]) (ob := [(decide (((List.length v3 + List.length ([36] : List UInt8) : Nat) : Int) ≤ 9223372036854775807)) = true]) (by kernel_rfl) (AllP.cons hc1 AllP.nil) ?_
    refine To.keep (kk := [0, 3, 4, 5, 6]) (kl := [5]) (K' := [(0, .recs (α := S_ref13_Part) (S_ref13_Part.mk [] [] 0 []) E_ref13_Part v0), (3, .str (v3 ++ [36])), (4, .val (.int .i64 v4)), (5, .own 5 0), (6, .val (.int .i64 v6))]) (L' := [(5, 58, [.str b5.f_Name, .str b5.f_Text, .val (.int .i64 b5.f_Op), .tree (α := S_ref13_Part) (S_ref13_Part.mk [] [] 0 []) pre_S_ref13_Part kids_S_ref13_Part b5.f_Sub])]) (by kernel_rfl) (by kernel_rfl) ?_
    cases h
    exact hQ
  · replace h := if_f hb h
    refine Wp.skip ?_
    refine To.keep (kk := [0, 3, 4, 5, 6]) (kl := [5]) (K' := [(0, .recs (α := S_ref13_Part) (S_ref13_Part.mk [] [] 0 []) E_ref13_Part v0), (3, .str v3), (4, .val (.int .i64 v4)), (5, .own 5 0), (6, .val (.int .i64 v6))]) (L' := [(5, 58, [.str b5.f_Name, .str b5.f_Text, .val (.int .i64 b5.f_Op), .tree (α := S_ref13_Part) (S_ref13_Part.mk [] [] 0 []) pre_S_ref13_Part kids_S_ref13_Part b5.f_Sub])]) (by kernel_rfl) (by kernel_rfl) ?_
    cases h
    exact hQ
def ref13_Text_j4 (R_ref13_Text : (List (S_ref13_Part)) → Option ((List UInt8))) (n : Nat) (v0 : List (S_ref13_Part)) (v3 : List UInt8) (v4 : Int) (v6 : Int) (b5 : S_ref13_Part) : Option ((List UInt8)) :=
  if (decide (0 ≤ v6 ∧ v6 < (List.length b5.f_Text : Int))) = true then ((ref13_Text_j5 R_ref13_Text n v0 v3 v4 v6 ((((b5.f_Text)[Int.toNat v6]?.getD 0).toNat : Int) == 36) b5).bind fun o1 =>
  if (decide (0 ≤ (IntKind.wrap .i64 (v6 + 1)) ∧ (IntKind.wrap .i64 (v6 + 1)) ≤ (List.length b5.f_Text : Int))) = true then (if (decide (0 ≤ v6 ∧ v6 ≤ (IntKind.wrap .i64 (v6 + 1)))) = true then (if (decide (((List.length o1 + List.length (List.take (Int.toNat (IntKind.wrap .i64 (v6 + 1)) - Int.toNat v6) (List.drop (Int.toNat v6) b5.f_Text)) : Nat) : Int) ≤ 9223372036854775807)) = true then (some (o1 ++ (List.take (Int.toNat (IntKind.wrap .i64 (v6 + 1)) - Int.toNat v6) (List.drop (Int.toNat v6) b5.f_Text)))) else none) else none) else none) else none
theorem ok_ref13_Text_j4 (R_ref13_Text : (List (S_ref13_Part)) → Option ((List UInt8))) (hR_ref13_Text : ∀ (a0 : List (S_ref13_Part)) (r : (List UInt8)), R_ref13_Text a0 = some r → CallsX Tryd.prog 10 [.recs (α := S_ref13_Part) (S_ref13_Part.mk [] [] 0 []) E_ref13_Part a0] (.str r)) (n : Nat) (v0 : List (S_ref13_Part)) (v3 : List UInt8) (v4 : Int) (v6 : Int) (b5 : S_ref13_Part) (o : (List UInt8)) (h : ref13_Text_j4 R_ref13_Text n v0 v3 v4 v6 b5 = some o) {F0 : Fz} {w0 : Pt Tryd.prog} {Q : Exit → Act → World → Prop} (hQ : To 63 F0 w0 [(0, .recs (α := S_ref13_Part) (S_ref13_Part.mk [] [] 0 []) E_ref13_Part v0), (3, .str o), (4, .val (.int .i64 v4)), (5, .own 5 0), (6, .val (.int .i64 v6))] [(5, 58, [.str b5.f_Name, .str b5.f_Text, .val (.int .i64 b5.f_Op), .tree (α := S_ref13_Part) (S_ref13_Part.mk [] [] 0 []) pre_S_ref13_Part kids_S_ref13_Part b5.f_Sub])] .normal Q) : Wp Tryd.prog 63 F0 w0 [(0, .recs (α := S_ref13_Part) (S_ref13_Part.mk [] [] 0 []) E_ref13_Part v0), (3, .str v3), (4, .val (.int .i64 v4)), (5, .own 5 0), (6, .val (.int .i64 v6))] [(5, 58, [.str b5.f_Name, .str b5.f_Text, .val (.int .i64 b5.f_Op), .tree (α := S_ref13_Part) (S_ref13_Part.mk [] [] 0 []) pre_S_ref13_Part kids_S_ref13_Part b5.f_Sub])] (cA (cB (cI (cI (cB (cT (cB (cB (cI (cA (cB (cI (cI (cB (cA (cB (cB (cF Tryd.f10)))))))))))))))))) Q := by
  unfold ref13_Text_j4 at h
  refine Wp.block ?_
  refine Wp.seq ?_
  refine Wp.seq ?_
  obtain ⟨hc5, h⟩ := chk_of h
  refine Wp.region hΓ [] [] [] [0, 3, 4, 5, 6, 31] [5] (K' := [(0, .recs (α := S_ref13_Part) (S_ref13_Part.mk [] [] 0 []) E_ref13_Part v0), (3, .str v3), (4, .val (.int .i64 v4)), (5, .own 5 0), (6, .val (.int .i64 v6)), (31, .val (.bool ((((b5.f_Text)[Int.toNat v6]?.getD 0).toNat : Int) == 36)))]) (L' := [(5, 58, [.str b5.f_Name, .str b5.f_Text, .val (.int .i64 b5.f_Op), .tree (α := S_ref13_Part) (S_ref13_Part.mk [] [] 0 []) pre_S_ref13_Part kids_S_ref13_Part b5.f_Sub])]) (ob := [(decide (0 ≤ v6 ∧ v6 < (List.length b5.f_Text : Int))) = true]) (by kernel_rfl) (AllP.cons hc5 AllP.nil) ?_
  refine To.thenN ?_
  obtain ⟨o1, ho1, h⟩ := bind_of h
  refine Wp.keep (kk := [0, 3, 4, 5, 6, 31]) (kl := [5]) (K' := [(0, .recs (α := S_ref13_Part) (S_ref13_Part.mk [] [] 0 []) E_ref13_Part v0), (3, .str v3), (4, .val (.int .i64 v4)), (5, .own 5 0), (6, .val (.int .i64 v6)), (31, .val (.bool ((((b5.f_Text)[Int.toNat v6]?.getD 0).toNat : Int) == 36)))]) (L' := [(5, 58, [.str b5.f_Name, .str b5.f_Text, .val (.int .i64 b5.f_Op), .tree (α := S_ref13_Part) (S_ref13_Part.mk [] [] 0 []) pre_S_ref13_Part kids_S_ref13_Part b5.f_Sub])]) (by kernel_rfl) (by kernel_rfl) ?_
  refine ok_ref13_Text_j5 R_ref13_Text hR_ref13_Text n v0 v3 v4 v6 ((((b5.f_Text)[Int.toNat v6]?.getD 0).toNat : Int) == 36) b5 o1 ho1 ?_
  refine To.thenN ?_
  obtain ⟨hc2, h⟩ := chk_of h
  obtain ⟨hc3, h⟩ := chk_of h
  obtain ⟨hc4, h⟩ := chk_of h
  refine Wp.region hΓ [] [] [] [0, 3, 4, 5, 6] [5] (K' := [(0, .recs (α := S_ref13_Part) (S_ref13_Part.mk [] [] 0 []) E_ref13_Part v0), (3, .str (o1 ++ (List.take (Int.toNat (IntKind.wrap .i64 (v6 + 1)) - Int.toNat v6) (List.drop (Int.toNat v6) b5.f_Text)))), (4, .val (.int .i64 v4)), (5, .own 5 0), (6, .val (.int .i64 v6))]) (L' := [(5, 58, [.str b5.f_Name, .str b5.f_Text, .val (.int .i64 b5.f_Op), .tree (α := S_ref13_Part) (S_ref13_Part.mk [] [] 0 []) pre_S_ref13_Part kids_S_ref13_Part b5.f_Sub])]) (ob := [(decide (0 ≤ (IntKind.wrap .i64 (v6 + 1)) ∧ (IntKind.wrap .i64 (v6 + 1)) ≤ (List.length b5.f_Text : Int))) = true, (decide (0 ≤ v6 ∧ v6 ≤ (IntKind.wrap .i64 (v6 + 1)))) = true, (decide (((List.length o1 + List.length (List.take (Int.toNat (IntKind.wrap .i64 (v6 + 1)) - Int.toNat v6) (List.drop (Int.toNat v6) b5.f_Text)) : Nat) : Int) ≤ 9223372036854775807)) = true]) (by kernel_rfl) (AllP.cons hc2 (AllP.cons hc3 (AllP.cons hc4 AllP.nil))) ?_
  refine To.blockN ?_
  refine To.keep (kk := [0, 3, 4, 5, 6]) (kl := [5]) (K' := [(0, .recs (α := S_ref13_Part) (S_ref13_Part.mk [] [] 0 []) E_ref13_Part v0), (3, .str (o1 ++ (List.take (Int.toNat (IntKind.wrap .i64 (v6 + 1)) - Int.toNat v6) (List.drop (Int.toNat v6) b5.f_Text)))), (4, .val (.int .i64 v4)), (5, .own 5 0), (6, .val (.int .i64 v6))]) (L' := [(5, 58, [.str b5.f_Name, .str b5.f_Text, .val (.int .i64 b5.f_Op), .tree (α := S_ref13_Part) (S_ref13_Part.mk [] [] 0 []) pre_S_ref13_Part kids_S_ref13_Part b5.f_Sub])]) (by kernel_rfl) (by kernel_rfl) ?_
  cases h
  exact hQ
def ref13_Text_l3 (R_ref13_Text : (List (S_ref13_Part)) → Option ((List UInt8))) (n : Nat) (v0 : List (S_ref13_Part)) (v4 : Int) (b5 : S_ref13_Part) : Nat → (List UInt8) → Int → Option ((List UInt8))
  | 0, _, _ => none
  | k + 1, v3, v6 => if (decide (v6 < (List.length b5.f_Text : Int))) = true then ((ref13_Text_j4 R_ref13_Text n v0 v3 v4 v6 b5).bind fun o1 =>
  ref13_Text_l3 R_ref13_Text n v0 v4 b5 k o1 (IntKind.wrap .i64 (v6 + 1)))
  else some v3
theorem ok_ref13_Text_l3 (R_ref13_Text : (List (S_ref13_Part)) → Option ((List UInt8))) (hR_ref13_Text : ∀ (a0 : List (S_ref13_Part)) (r : (List UInt8)), R_ref13_Text a0 = some r → CallsX Tryd.prog 10 [.recs (α := S_ref13_Part) (S_ref13_Part.mk [] [] 0 []) E_ref13_Part a0] (.str r)) (n : Nat) (v0 : List (S_ref13_Part)) (v4 : Int) (b5 : S_ref13_Part) {F0 : Fz} {w0 : Pt Tryd.prog} {Q : Exit → Act → World → Prop} (k : Nat) : ∀ (v3 : List UInt8) (v6 : Int) (o : (List UInt8)), ref13_Text_l3 R_ref13_Text n v0 v4 b5 k v3 v6 = some o → To 63 F0 w0 [(0, .recs (α := S_ref13_Part) (S_ref13_Part.mk [] [] 0 []) E_ref13_Part v0), (3, .str o), (4, .val (.int .i64 v4))] [] (.exit 2) Q → WL Tryd.prog 63 F0 w0 [(0, .recs (α := S_ref13_Part) (S_ref13_Part.mk [] [] 0 []) E_ref13_Part v0), (3, .str v3), (4, .val (.int .i64 v4)), (5, .own 5 0), (6, .val (.int .i64 v6))] [(5, 58, [.str b5.f_Name, .str b5.f_Text, .val (.int .i64 b5.f_Op), .tree (α := S_ref13_Part) (S_ref13_Part.mk [] [] 0 []) pre_S_ref13_Part kids_S_ref13_Part b5.f_Sub])] (cI (cI (cB (cT (cB (cB (cI (cA (cB (cI (cI (cB (cA (cB (cB (cF Tryd.f10)))))))))))))))) Q := by
  induction k with
  | zero => intro v3 v6 o h; cases h
  | succ k ih =>
    intro v3 v6 o h hQ
    rw [ref13_Text_l3] at h
    refine WL.round ?_
    refine Wp.seq ?_
    refine Wp.seq ?_
    refine Wp.region hΓ [] [] [] [0, 3, 4, 5, 6, 24] [5] (K' := [(0, .recs (α := S_ref13_Part) (S_ref13_Part.mk [] [] 0 []) E_ref13_Part v0), (3, .str v3), (4, .val (.int .i64 v4)), (5, .own 5 0), (6, .val (.int .i64 v6)), (24, .val (.bool (decide (v6 < (List.length b5.f_Text : Int)))))]) (L' := [(5, 58, [.str b5.f_Name, .str b5.f_Text, .val (.int .i64 b5.f_Op), .tree (α := S_ref13_Part) (S_ref13_Part.mk [] [] 0 []) pre_S_ref13_Part kids_S_ref13_Part b5.f_Sub])]) (ob := []) (by kernel_rfl) AllP.nil ?_
    refine To.thenN ?_
    refine Wp.cond (b := (decide (v6 < (List.length b5.f_Text : Int)))) (by kernel_rfl) (fun hb => ?_) (fun hb => ?_)
    · replace h := if_t hb h
      refine Wp.skip ?_
      refine To.thenN ?_
      refine Wp.seq ?_
      obtain ⟨o1, ho1, h⟩ := bind_of h
      refine Wp.keep (kk := [0, 3, 4, 5, 6]) (kl := [5]) (K' := [(0, .recs (α := S_ref13_Part) (S_ref13_Part.mk [] [] 0 []) E_ref13_Part v0), (3, .str v3), (4, .val (.int .i64 v4)), (5, .own 5 0), (6, .val (.int .i64 v6))]) (L' := [(5, 58, [.str b5.f_Name, .str b5.f_Text, .val (.int .i64 b5.f_Op), .tree (α := S_ref13_Part) (S_ref13_Part.mk [] [] 0 []) pre_S_ref13_Part kids_S_ref13_Part b5.f_Sub])]) (by kernel_rfl) (by kernel_rfl) ?_
      refine ok_ref13_Text_j4 R_ref13_Text hR_ref13_Text n v0 v3 v4 v6 b5 o1 ho1 ?_
      refine To.thenN ?_
      refine Wp.region hΓ [] [] [] [0, 3, 4, 5, 6] [5] (K' := [(0, .recs (α := S_ref13_Part) (S_ref13_Part.mk [] [] 0 []) E_ref13_Part v0), (3, .str o1), (4, .val (.int .i64 v4)), (5, .own 5 0), (6, .val (.int .i64 (IntKind.wrap .i64 (v6 + 1))))]) (L' := [(5, 58, [.str b5.f_Name, .str b5.f_Text, .val (.int .i64 b5.f_Op), .tree (α := S_ref13_Part) (S_ref13_Part.mk [] [] 0 []) pre_S_ref13_Part kids_S_ref13_Part b5.f_Sub])]) (ob := []) (by kernel_rfl) AllP.nil ?_
      refine To.keep (kk := [0, 3, 4, 5, 6]) (kl := [5]) (K' := [(0, .recs (α := S_ref13_Part) (S_ref13_Part.mk [] [] 0 []) E_ref13_Part v0), (3, .str o1), (4, .val (.int .i64 v4)), (5, .own 5 0), (6, .val (.int .i64 (IntKind.wrap .i64 (v6 + 1))))]) (L' := [(5, 58, [.str b5.f_Name, .str b5.f_Text, .val (.int .i64 b5.f_Op), .tree (α := S_ref13_Part) (S_ref13_Part.mk [] [] 0 []) pre_S_ref13_Part kids_S_ref13_Part b5.f_Sub])]) (by kernel_rfl) (by kernel_rfl) ?_
      refine To.again ?_
      exact ih o1 (IntKind.wrap .i64 (v6 + 1)) _ h hQ
    · replace h := if_f hb h
      refine Wp.exit ?_
      refine To.thenX ?_
      refine To.thenX ?_
      refine To.keep (kk := [0, 3, 4]) (kl := []) (K' := [(0, .recs (α := S_ref13_Part) (S_ref13_Part.mk [] [] 0 []) E_ref13_Part v0), (3, .str v3), (4, .val (.int .i64 v4))]) (L' := []) (by kernel_rfl) (by kernel_rfl) ?_
      cases h
      exact hQ
def ref13_Text_j6 (R_ref13_Text : (List (S_ref13_Part)) → Option ((List UInt8))) (n : Nat) (v0 : List (S_ref13_Part)) (v3 : List UInt8) (v4 : Int) (v54 : Bool) (b5 : S_ref13_Part) : Option ((List UInt8)) :=
  if v54 = true then ((R_ref13_Text b5.f_Sub).bind fun r3 =>
  if (decide (((List.length v3 + List.length r3 : Nat) : Int) ≤ 9223372036854775807)) = true then (some (v3 ++ r3)) else none)
  else some v3
theorem ok_ref13_Text_j6 (R_ref13_Text : (List (S_ref13_Part)) → Option ((List UInt8))) (hR_ref13_Text : ∀ (a0 : List (S_ref13_Part)) (r : (List UInt8)), R_ref13_Text a0 = some r → CallsX Tryd.prog 10 [.recs (α := S_ref13_Part) (S_ref13_Part.mk [] [] 0 []) E_ref13_Part a0] (.str r)) (n : Nat) (v0 : List (S_ref13_Part)) (v3 : List UInt8) (v4 : Int) (v54 : Bool) (b5 : S_ref13_Part) (o : (List UInt8)) (h : ref13_Text_j6 R_ref13_Text n v0 v3 v4 v54 b5 = some o) {F0 : Fz} {w0 : Pt Tryd.prog} {Q : Exit → Act → World → Prop} (hQ : To 63 F0 w0 [(0, .recs (α := S_ref13_Part) (S_ref13_Part.mk [] [] 0 []) E_ref13_Part v0), (3, .str o), (4, .val (.int .i64 v4))] [] .normal Q) : Wp Tryd.prog 63 F0 w0 [(0, .recs (α := S_ref13_Part) (S_ref13_Part.mk [] [] 0 []) E_ref13_Part v0), (3, .str v3), (4, .val (.int .i64 v4)), (5, .own 5 0), (54, .val (.bool v54))] [(5, 58, [.str b5.f_Name, .str b5.f_Text, .val (.int .i64 b5.f_Op), .tree (α := S_ref13_Part) (S_ref13_Part.mk [] [] 0 []) pre_S_ref13_Part kids_S_ref13_Part b5.f_Sub])] (cB (cA (cB (cE (cB (cB (cI (cA (cB (cI (cI (cB (cA (cB (cB (cF Tryd.f10)))))))))))))))) Q := by
  unfold ref13_Text_j6 at h
  refine Wp.cond (b := v54) (by kernel_rfl) (fun hb => ?_) (fun hb => ?_)
  · replace h := if_t hb h
    obtain ⟨r3, hr3, h⟩ := bind_of h
    obtain ⟨hc4, h⟩ := chk_of h
    refine Wp.region hΓ [] [(3, .str r3)] [] [0, 3, 4] [] (K' := [(0, .recs (α := S_ref13_Part) (S_ref13_Part.mk [] [] 0 []) E_ref13_Part v0), (3, .str (v3 ++ r3)), (4, .val (.int .i64 v4))]) (L' := []) (ob := [(true = true → CX Tryd.prog 10 [.recs (α := S_ref13_Part) (S_ref13_Part.mk [] [] 0 []) E_ref13_Part b5.f_Sub] (.str r3)), (decide (((List.length v3 + List.length r3 : Nat) : Int) ≤ 9223372036854775807)) = true]) (by kernel_rfl) (AllP.cons (fun _ => cx (hR_ref13_Text b5.f_Sub _ hr3)) (AllP.cons hc4 AllP.nil)) ?_
    refine To.keep (kk := [0, 3, 4]) (kl := []) (K' := [(0, .recs (α := S_ref13_Part) (S_ref13_Part.mk [] [] 0 []) E_ref13_Part v0), (3, .str (v3 ++ r3)), (4, .val (.int .i64 v4))]) (L' := []) (by kernel_rfl) (by kernel_rfl) ?_
    cases h
    exact hQ
  · replace h := if_f hb h
    refine Wp.skip ?_
    refine To.keep (kk := [0, 3, 4]) (kl := []) (K' := [(0, .recs (α := S_ref13_Part) (S_ref13_Part.mk [] [] 0 []) E_ref13_Part v0), (3, .str v3), (4, .val (.int .i64 v4))]) (L' := []) (by kernel_rfl) (by kernel_rfl) ?_
    cases h
    exact hQ
def ref13_Text_j2 (R_ref13_Text : (List (S_ref13_Part)) → Option ((List UInt8))) (n : Nat) (v0 : List (S_ref13_Part)) (v3 : List UInt8) (v4 : Int) : Option ((List UInt8)) :=
  if (decide (0 ≤ v4 ∧ v4 < (List.length v0 : Int))) = true then (if ((((v0)[Int.toNat v4]?.getD (S_ref13_Part.mk [] [] 0 [])).f_Op) == 0) = true then ((ref13_Text_l3 R_ref13_Text n v0 v4 (S_ref13_Part.mk (((v0)[Int.toNat v4]?.getD (S_ref13_Part.mk [] [] 0 [])).f_Name) (((v0)[Int.toNat v4]?.getD (S_ref13_Part.mk [] [] 0 [])).f_Text) (((v0)[Int.toNat v4]?.getD (S_ref13_Part.mk [] [] 0 [])).f_Op) (((v0)[Int.toNat v4]?.getD (S_ref13_Part.mk [] [] 0 [])).f_Sub)) n v3 0).bind fun o1 =>
  some o1)
  else (if (decide (((List.length v3 + List.length ([36] : List UInt8) : Nat) : Int) ≤ 9223372036854775807)) = true then (if (decide (((List.length (v3 ++ [36]) + List.length ([123] : List UInt8) : Nat) : Int) ≤ 9223372036854775807)) = true then (if (decide (((List.length ((v3 ++ [36]) ++ [123]) + List.length (((v0)[Int.toNat v4]?.getD (S_ref13_Part.mk [] [] 0 [])).f_Name) : Nat) : Int) ≤ 9223372036854775807)) = true then ((ref13_mark n (((v0)[Int.toNat v4]?.getD (S_ref13_Part.mk [] [] 0 [])).f_Op)).bind fun r2 =>
  if (decide (((List.length (((v3 ++ [36]) ++ [123]) ++ (((v0)[Int.toNat v4]?.getD (S_ref13_Part.mk [] [] 0 [])).f_Name)) + List.length r2 : Nat) : Int) ≤ 9223372036854775807)) = true then ((ref13_Text_j6 R_ref13_Text n v0 ((((v3 ++ [36]) ++ [123]) ++ (((v0)[Int.toNat v4]?.getD (S_ref13_Part.mk [] [] 0 [])).f_Name)) ++ r2) v4 (decide ((((v0)[Int.toNat v4]?.getD (S_ref13_Part.mk [] [] 0 [])).f_Op) > 1)) (S_ref13_Part.mk (((v0)[Int.toNat v4]?.getD (S_ref13_Part.mk [] [] 0 [])).f_Name) (((v0)[Int.toNat v4]?.getD (S_ref13_Part.mk [] [] 0 [])).f_Text) (((v0)[Int.toNat v4]?.getD (S_ref13_Part.mk [] [] 0 [])).f_Op) (((v0)[Int.toNat v4]?.getD (S_ref13_Part.mk [] [] 0 [])).f_Sub))).bind fun o3 =>
  if (decide (((List.length o3 + List.length ([125] : List UInt8) : Nat) : Int) ≤ 9223372036854775807)) = true then (some (o3 ++ [125])) else none) else none) else none) else none) else none)) else none
theorem ok_ref13_Text_j2 (R_ref13_Text : (List (S_ref13_Part)) → Option ((List UInt8))) (hR_ref13_Text : ∀ (a0 : List (S_ref13_Part)) (r : (List UInt8)), R_ref13_Text a0 = some r → CallsX Tryd.prog 10 [.recs (α := S_ref13_Part) (S_ref13_Part.mk [] [] 0 []) E_ref13_Part a0] (.str r)) (n : Nat) (v0 : List (S_ref13_Part)) (v3 : List UInt8) (v4 : Int) (o : (List UInt8)) (h : ref13_Text_j2 R_ref13_Text n v0 v3 v4 = some o) {F0 : Fz} {w0 : Pt Tryd.prog} {Q : Exit → Act → World → Prop} (hQ : To 63 F0 w0 [(0, .recs (α := S_ref13_Part) (S_ref13_Part.mk [] [] 0 []) E_ref13_Part v0), (3, .str o), (4, .val (.int .i64 v4))] [] .normal Q) : Wp Tryd.prog 63 F0 w0 [(0, .recs (α := S_ref13_Part) (S_ref13_Part.mk [] [] 0 []) E_ref13_Part v0), (3, .str v3), (4, .val (.int .i64 v4))] [] (cA (cB (cI (cI (cB (cA (cB (cB (cF Tryd.f10))))))))) Q := by
  unfold ref13_Text_j2 at h
  refine Wp.block ?_
  refine Wp.seq ?_
  obtain ⟨hc9, h⟩ := chk_of h
  refine Wp.region hΓ [] [] [] [0, 3, 4, 5] [5] (K' := [(0, .recs (α := S_ref13_Part) (S_ref13_Part.mk [] [] 0 []) E_ref13_Part v0), (3, .str v3), (4, .val (.int .i64 v4)), (5, .own 5 0)]) (L' := [(5, 58, [.str (((v0)[Int.toNat v4]?.getD (S_ref13_Part.mk [] [] 0 [])).f_Name), .str (((v0)[Int.toNat v4]?.getD (S_ref13_Part.mk [] [] 0 [])).f_Text), .val (.int .i64 (((v0)[Int.toNat v4]?.getD (S_ref13_Part.mk [] [] 0 [])).f_Op)), .tree (α := S_ref13_Part) (S_ref13_Part.mk [] [] 0 []) pre_S_ref13_Part kids_S_ref13_Part (((v0)[Int.toNat v4]?.getD (S_ref13_Part.mk [] [] 0 [])).f_Sub)])]) (ob := [(decide (0 ≤ v4 ∧ v4 < (List.length v0 : Int))) = true]) (by kernel_rfl) (AllP.cons hc9 AllP.nil) ?_
  refine To.thenN ?_
  refine Wp.seq ?_
  refine Wp.region hΓ [] [] [] [0, 3, 4, 5, 19] [5] (K' := [(0, .recs (α := S_ref13_Part) (S_ref13_Part.mk [] [] 0 []) E_ref13_Part v0), (3, .str v3), (4, .val (.int .i64 v4)), (5, .own 5 0), (19, .val (.bool ((((v0)[Int.toNat v4]?.getD (S_ref13_Part.mk [] [] 0 [])).f_Op) == 0)))]) (L' := [(5, 58, [.str (((v0)[Int.toNat v4]?.getD (S_ref13_Part.mk [] [] 0 [])).f_Name), .str (((v0)[Int.toNat v4]?.getD (S_ref13_Part.mk [] [] 0 [])).f_Text), .val (.int .i64 (((v0)[Int.toNat v4]?.getD (S_ref13_Part.mk [] [] 0 [])).f_Op)), .tree (α := S_ref13_Part) (S_ref13_Part.mk [] [] 0 []) pre_S_ref13_Part kids_S_ref13_Part (((v0)[Int.toNat v4]?.getD (S_ref13_Part.mk [] [] 0 [])).f_Sub)])]) (ob := []) (by kernel_rfl) AllP.nil ?_
  refine To.thenN ?_
  refine Wp.cond (b := ((((v0)[Int.toNat v4]?.getD (S_ref13_Part.mk [] [] 0 [])).f_Op) == 0)) (by kernel_rfl) (fun hb => ?_) (fun hb => ?_)
  · replace h := if_t hb h
    refine Wp.seq ?_
    refine Wp.region hΓ [] [] [] [0, 3, 4, 5, 6] [5] (K' := [(0, .recs (α := S_ref13_Part) (S_ref13_Part.mk [] [] 0 []) E_ref13_Part v0), (3, .str v3), (4, .val (.int .i64 v4)), (5, .own 5 0), (6, .val (.int .i64 0))]) (L' := [(5, 58, [.str (((v0)[Int.toNat v4]?.getD (S_ref13_Part.mk [] [] 0 [])).f_Name), .str (((v0)[Int.toNat v4]?.getD (S_ref13_Part.mk [] [] 0 [])).f_Text), .val (.int .i64 (((v0)[Int.toNat v4]?.getD (S_ref13_Part.mk [] [] 0 [])).f_Op)), .tree (α := S_ref13_Part) (S_ref13_Part.mk [] [] 0 []) pre_S_ref13_Part kids_S_ref13_Part (((v0)[Int.toNat v4]?.getD (S_ref13_Part.mk [] [] 0 [])).f_Sub)])]) (ob := []) (by kernel_rfl) AllP.nil ?_
    refine To.thenN ?_
    refine Wp.block ?_
    obtain ⟨o1, ho1, h⟩ := bind_of h
    refine Wp.keep (kk := [0, 3, 4, 5, 6]) (kl := [5]) (K' := [(0, .recs (α := S_ref13_Part) (S_ref13_Part.mk [] [] 0 []) E_ref13_Part v0), (3, .str v3), (4, .val (.int .i64 v4)), (5, .own 5 0), (6, .val (.int .i64 0))]) (L' := [(5, 58, [.str (((v0)[Int.toNat v4]?.getD (S_ref13_Part.mk [] [] 0 [])).f_Name), .str (((v0)[Int.toNat v4]?.getD (S_ref13_Part.mk [] [] 0 [])).f_Text), .val (.int .i64 (((v0)[Int.toNat v4]?.getD (S_ref13_Part.mk [] [] 0 [])).f_Op)), .tree (α := S_ref13_Part) (S_ref13_Part.mk [] [] 0 []) pre_S_ref13_Part kids_S_ref13_Part (((v0)[Int.toNat v4]?.getD (S_ref13_Part.mk [] [] 0 [])).f_Sub)])]) (by kernel_rfl) (by kernel_rfl) ?_
    refine Wp.loopL ?_
    refine ok_ref13_Text_l3 R_ref13_Text hR_ref13_Text n v0 v4 (S_ref13_Part.mk (((v0)[Int.toNat v4]?.getD (S_ref13_Part.mk [] [] 0 [])).f_Name) (((v0)[Int.toNat v4]?.getD (S_ref13_Part.mk [] [] 0 [])).f_Text) (((v0)[Int.toNat v4]?.getD (S_ref13_Part.mk [] [] 0 [])).f_Op) (((v0)[Int.toNat v4]?.getD (S_ref13_Part.mk [] [] 0 [])).f_Sub)) n v3 0 o1 ho1 ?_
    refine To.blockX ?_
    refine To.blockN ?_
    refine To.keep (kk := [0, 3, 4]) (kl := []) (K' := [(0, .recs (α := S_ref13_Part) (S_ref13_Part.mk [] [] 0 []) E_ref13_Part v0), (3, .str o1), (4, .val (.int .i64 v4))]) (L' := []) (by kernel_rfl) (by kernel_rfl) ?_
    cases h
    exact hQ
  · replace h := if_f hb h
    refine Wp.seq ?_
    obtain ⟨hc5, h⟩ := chk_of h
    obtain ⟨hc6, h⟩ := chk_of h
    obtain ⟨hc7, h⟩ := chk_of h
    obtain ⟨r2, hr2, h⟩ := bind_of h
    obtain ⟨hc8, h⟩ := chk_of h
    refine Wp.regionD hm hΓ [(8, .str r2)] [0, 3, 4, 5] [5] (K' := [(0, .recs (α := S_ref13_Part) (S_ref13_Part.mk [] [] 0 []) E_ref13_Part v0), (3, .str ((((v3 ++ [36]) ++ [123]) ++ (((v0)[Int.toNat v4]?.getD (S_ref13_Part.mk [] [] 0 [])).f_Name)) ++ r2)), (4, .val (.int .i64 v4)), (5, .own 5 0)]) (L' := [(5, 58, [.str (((v0)[Int.toNat v4]?.getD (S_ref13_Part.mk [] [] 0 [])).f_Name), .str (((v0)[Int.toNat v4]?.getD (S_ref13_Part.mk [] [] 0 [])).f_Text), .val (.int .i64 (((v0)[Int.toNat v4]?.getD (S_ref13_Part.mk [] [] 0 [])).f_Op)), .tree (α := S_ref13_Part) (S_ref13_Part.mk [] [] 0 []) pre_S_ref13_Part kids_S_ref13_Part (((v0)[Int.toNat v4]?.getD (S_ref13_Part.mk [] [] 0 [])).f_Sub)])]) (ob := [(decide (((List.length v3 + List.length ([36] : List UInt8) : Nat) : Int) ≤ 9223372036854775807)) = true, (decide (((List.length (v3 ++ [36]) + List.length ([123] : List UInt8) : Nat) : Int) ≤ 9223372036854775807)) = true, (decide (((List.length ((v3 ++ [36]) ++ [123]) + List.length (((v0)[Int.toNat v4]?.getD (S_ref13_Part.mk [] [] 0 [])).f_Name) : Nat) : Int) ≤ 9223372036854775807)) = true, (true = true → CX Tryd.prog 21 [.val (.int .i64 (((v0)[Int.toNat v4]?.getD (S_ref13_Part.mk [] [] 0 [])).f_Op))] (.str r2)), (decide (((List.length (((v3 ++ [36]) ++ [123]) ++ (((v0)[Int.toNat v4]?.getD (S_ref13_Part.mk [] [] 0 [])).f_Name)) + List.length r2 : Nat) : Int) ≤ 9223372036854775807)) = true]) (by kernel_rfl) (AllP.cons hc5 (AllP.cons hc6 (AllP.cons hc7 (AllP.cons (fun _ => cx (ok_ref13_mark n (((v0)[Int.toNat v4]?.getD (S_ref13_Part.mk [] [] 0 [])).f_Op) _ hr2)) (AllP.cons hc8 AllP.nil))))) ?_
    refine To.thenN ?_
    refine Wp.seq ?_
    refine Wp.seq ?_
    refine Wp.region hΓ [] [] [] [0, 3, 4, 5, 54] [5] (K' := [(0, .recs (α := S_ref13_Part) (S_ref13_Part.mk [] [] 0 []) E_ref13_Part v0), (3, .str ((((v3 ++ [36]) ++ [123]) ++ (((v0)[Int.toNat v4]?.getD (S_ref13_Part.mk [] [] 0 [])).f_Name)) ++ r2)), (4, .val (.int .i64 v4)), (5, .own 5 0), (54, .val (.bool (decide ((((v0)[Int.toNat v4]?.getD (S_ref13_Part.mk [] [] 0 [])).f_Op) > 1))))]) (L' := [(5, 58, [.str (((v0)[Int.toNat v4]?.getD (S_ref13_Part.mk [] [] 0 [])).f_Name), .str (((v0)[Int.toNat v4]?.getD (S_ref13_Part.mk [] [] 0 [])).f_Text), .val (.int .i64 (((v0)[Int.toNat v4]?.getD (S_ref13_Part.mk [] [] 0 [])).f_Op)), .tree (α := S_ref13_Part) (S_ref13_Part.mk [] [] 0 []) pre_S_ref13_Part kids_S_ref13_Part (((v0)[Int.toNat v4]?.getD (S_ref13_Part.mk [] [] 0 [])).f_Sub)])]) (ob := []) (by kernel_rfl) AllP.nil ?_
    refine To.thenN ?_
    obtain ⟨o3, ho3, h⟩ := bind_of h
    refine Wp.keep (kk := [0, 3, 4, 5, 54]) (kl := [5]) (K' := [(0, .recs (α := S_ref13_Part) (S_ref13_Part.mk [] [] 0 []) E_ref13_Part v0), (3, .str ((((v3 ++ [36]) ++ [123]) ++ (((v0)[Int.toNat v4]?.getD (S_ref13_Part.mk [] [] 0 [])).f_Name)) ++ r2)), (4, .val (.int .i64 v4)), (5, .own 5 0), (54, .val (.bool (decide ((((v0)[Int.toNat v4]?.getD (S_ref13_Part.mk [] [] 0 [])).f_Op) > 1))))]) (L' := [(5, 58, [.str (((v0)[Int.toNat v4]?.getD (S_ref13_Part.mk [] [] 0 [])).f_Name), .str (((v0)[Int.toNat v4]?.getD (S_ref13_Part.mk [] [] 0 [])).f_Text), .val (.int .i64 (((v0)[Int.toNat v4]?.getD (S_ref13_Part.mk [] [] 0 [])).f_Op)), .tree (α := S_ref13_Part) (S_ref13_Part.mk [] [] 0 []) pre_S_ref13_Part kids_S_ref13_Part (((v0)[Int.toNat v4]?.getD (S_ref13_Part.mk [] [] 0 [])).f_Sub)])]) (by kernel_rfl) (by kernel_rfl) ?_
    refine ok_ref13_Text_j6 R_ref13_Text hR_ref13_Text n v0 ((((v3 ++ [36]) ++ [123]) ++ (((v0)[Int.toNat v4]?.getD (S_ref13_Part.mk [] [] 0 [])).f_Name)) ++ r2) v4 (decide ((((v0)[Int.toNat v4]?.getD (S_ref13_Part.mk [] [] 0 [])).f_Op) > 1)) (S_ref13_Part.mk (((v0)[Int.toNat v4]?.getD (S_ref13_Part.mk [] [] 0 [])).f_Name) (((v0)[Int.toNat v4]?.getD (S_ref13_Part.mk [] [] 0 [])).f_Text) (((v0)[Int.toNat v4]?.getD (S_ref13_Part.mk [] [] 0 [])).f_Op) (((v0)[Int.toNat v4]?.getD (S_ref13_Part.mk [] [] 0 [])).f_Sub)) o3 ho3 ?_
    refine To.thenN ?_
    obtain ⟨hc4, h⟩ := chk_of h
    refine Wp.region hΓ [] [] [] [0, 3, 4] [] (K' := [(0, .recs (α := S_ref13_Part) (S_ref13_Part.mk [] [] 0 []) E_ref13_Part v0), (3, .str (o3 ++ [125])), (4, .val (.int .i64 v4))]) (L' := []) (ob := [(decide (((List.length o3 + List.length ([125] : List UInt8) : Nat) : Int) ≤ 9223372036854775807)) = true]) (by kernel_rfl) (AllP.cons hc4 AllP.nil) ?_
    refine To.blockN ?_
    refine To.keep (kk := [0, 3, 4]) (kl := []) (K' := [(0, .recs (α := S_ref13_Part) (S_ref13_Part.mk [] [] 0 []) E_ref13_Part v0), (3, .str (o3 ++ [125])), (4, .val (.int .i64 v4))]) (L' := []) (by kernel_rfl) (by kernel_rfl) ?_
    cases h
    exact hQ
def ref13_Text_l1 (R_ref13_Text : (List (S_ref13_Part)) → Option ((List UInt8))) (n : Nat) (v0 : List (S_ref13_Part)) : Nat → (List UInt8) → Int → Option ((List UInt8))
  | 0, _, _ => none
  | k + 1, v3, v4 => if (decide (v4 < (List.length v0 : Int))) = true then ((ref13_Text_j2 R_ref13_Text n v0 v3 v4).bind fun o1 =>
  ref13_Text_l1 R_ref13_Text n v0 k o1 (IntKind.wrap .i64 (v4 + 1)))
  else some v3
theorem ok_ref13_Text_l1 (R_ref13_Text : (List (S_ref13_Part)) → Option ((List UInt8))) (hR_ref13_Text : ∀ (a0 : List (S_ref13_Part)) (r : (List UInt8)), R_ref13_Text a0 = some r → CallsX Tryd.prog 10 [.recs (α := S_ref13_Part) (S_ref13_Part.mk [] [] 0 []) E_ref13_Part a0] (.str r)) (n : Nat) (v0 : List (S_ref13_Part)) {F0 : Fz} {w0 : Pt Tryd.prog} {Q : Exit → Act → World → Prop} (k : Nat) : ∀ (v3 : List UInt8) (v4 : Int) (o : (List UInt8)), ref13_Text_l1 R_ref13_Text n v0 k v3 v4 = some o → To 63 F0 w0 [(3, .str o)] [] (.exit 0) Q → WL Tryd.prog 63 F0 w0 [(0, .recs (α := S_ref13_Part) (S_ref13_Part.mk [] [] 0 []) E_ref13_Part v0), (3, .str v3), (4, .val (.int .i64 v4))] [] (cI (cI (cB (cA (cB (cB (cF Tryd.f10))))))) Q := by
  induction k with
  | zero => intro v3 v4 o h; cases h
  | succ k ih =>
    intro v3 v4 o h hQ
    rw [ref13_Text_l1] at h
    refine WL.round ?_
    refine Wp.seq ?_
    refine Wp.seq ?_
    refine Wp.region hΓ [] [] [] [0, 3, 4, 10] [] (K' := [(0, .recs (α := S_ref13_Part) (S_ref13_Part.mk [] [] 0 []) E_ref13_Part v0), (3, .str v3), (4, .val (.int .i64 v4)), (10, .val (.bool (decide (v4 < (List.length v0 : Int)))))]) (L' := []) (ob := []) (by kernel_rfl) AllP.nil ?_
    refine To.thenN ?_
    refine Wp.cond (b := (decide (v4 < (List.length v0 : Int)))) (by kernel_rfl) (fun hb => ?_) (fun hb => ?_)
    · replace h := if_t hb h
      refine Wp.skip ?_
      refine To.thenN ?_
      refine Wp.seq ?_
      obtain ⟨o1, ho1, h⟩ := bind_of h
      refine Wp.keep (kk := [0, 3, 4]) (kl := []) (K' := [(0, .recs (α := S_ref13_Part) (S_ref13_Part.mk [] [] 0 []) E_ref13_Part v0), (3, .str v3), (4, .val (.int .i64 v4))]) (L' := []) (by kernel_rfl) (by kernel_rfl) ?_
      refine ok_ref13_Text_j2 R_ref13_Text hR_ref13_Text n v0 v3 v4 o1 ho1 ?_
      refine To.thenN ?_
      refine Wp.region hΓ [] [] [] [0, 3, 4] [] (K' := [(0, .recs (α := S_ref13_Part) (S_ref13_Part.mk [] [] 0 []) E_ref13_Part v0), (3, .str o1), (4, .val (.int .i64 (IntKind.wrap .i64 (v4 + 1))))]) (L' := []) (ob := []) (by kernel_rfl) AllP.nil ?_
      refine To.keep (kk := [0, 3, 4]) (kl := []) (K' := [(0, .recs (α := S_ref13_Part) (S_ref13_Part.mk [] [] 0 []) E_ref13_Part v0), (3, .str o1), (4, .val (.int .i64 (IntKind.wrap .i64 (v4 + 1))))]) (L' := []) (by kernel_rfl) (by kernel_rfl) ?_
      refine To.again ?_
      exact ih o1 (IntKind.wrap .i64 (v4 + 1)) _ h hQ
    · replace h := if_f hb h
      refine Wp.exit ?_
      refine To.thenX ?_
      refine To.thenX ?_
      refine To.keep (kk := [3]) (kl := []) (K' := [(3, .str v3)]) (L' := []) (by kernel_rfl) (by kernel_rfl) ?_
      cases h
      exact hQ
def ref13_Text_b (R_ref13_Text : (List (S_ref13_Part)) → Option ((List UInt8))) (n : Nat) (a0 : List (S_ref13_Part)) : Option ((List UInt8)) :=
  (ref13_Text_l1 R_ref13_Text n a0 n [] 0).bind fun o1 =>
  some o1
theorem ok_ref13_Text_b (R_ref13_Text : (List (S_ref13_Part)) → Option ((List UInt8))) (hR_ref13_Text : ∀ (a0 : List (S_ref13_Part)) (r : (List UInt8)), R_ref13_Text a0 = some r → CallsX Tryd.prog 10 [.recs (α := S_ref13_Part) (S_ref13_Part.mk [] [] 0 []) E_ref13_Part a0] (.str r)) (n : Nat) (a0 : List (S_ref13_Part)) (r : (List UInt8)) (h : ref13_Text_b R_ref13_Text n a0 = some r) : CallsX Tryd.prog 10 [.recs (α := S_ref13_Part) (S_ref13_Part.mk [] [] 0 []) E_ref13_Part a0] (.str r) := by
  unfold ref13_Text_b at h
  refine callsX_of (fn := Tryd.f10) (by kernel_rfl) rfl (by kernel_rfl) (Nat.le_of_ble_eq_true (by kernel_rfl)) fun F0 w0 _ => ?_
  refine Wp.keep (kk := [0]) (kl := []) (K' := [(0, .recs (α := S_ref13_Part) (S_ref13_Part.mk [] [] 0 []) E_ref13_Part a0)]) (L' := []) (by kernel_rfl) (by kernel_rfl) ?_
  refine Wp.seq ?_
  refine Wp.region hΓ [] [] [] [0] [] (K' := [(0, .recs (α := S_ref13_Part) (S_ref13_Part.mk [] [] 0 []) E_ref13_Part a0)]) (L' := []) (ob := []) (by kernel_rfl) AllP.nil ?_
  refine To.thenN ?_
  refine Wp.seq ?_
  refine Wp.region hΓ [] [] [] [0, 3] [] (K' := [(0, .recs (α := S_ref13_Part) (S_ref13_Part.mk [] [] 0 []) E_ref13_Part a0), (3, .str [])]) (L' := []) (ob := []) (by kernel_rfl) AllP.nil ?_
  refine To.thenN ?_
  refine Wp.seq ?_
  refine Wp.seq ?_
  refine Wp.region hΓ [] [] [] [0, 3, 4] [] (K' := [(0, .recs (α := S_ref13_Part) (S_ref13_Part.mk [] [] 0 []) E_ref13_Part a0), (3, .str []), (4, .val (.int .i64 0))]) (L' := []) (ob := []) (by kernel_rfl) AllP.nil ?_
  refine To.thenN ?_
  refine Wp.block ?_
  obtain ⟨o1, ho1, h⟩ := bind_of h
  refine Wp.keep (kk := [0, 3, 4]) (kl := []) (K' := [(0, .recs (α := S_ref13_Part) (S_ref13_Part.mk [] [] 0 []) E_ref13_Part a0), (3, .str []), (4, .val (.int .i64 0))]) (L' := []) (by kernel_rfl) (by kernel_rfl) ?_
  refine Wp.loopL ?_
  refine ok_ref13_Text_l1 R_ref13_Text hR_ref13_Text n a0 n [] 0 o1 ho1 ?_
  refine To.blockX ?_
  refine To.thenN ?_
  refine Wp.seq ?_
  refine Wp.region hΓ [] [] [] [2] [] (K' := [(2, .str o1)]) (L' := []) (ob := []) (by kernel_rfl) AllP.nil ?_
  refine To.thenN ?_
  refine Wp.ret ?_
  refine To.keep (kk := [2]) (kl := []) (K' := [(2, .str o1)]) (L' := []) (by kernel_rfl) (by kernel_rfl) ?_
  cases h
  exact To.done hΓ (by kernel_rfl)
def ref13_Text : Nat → (List (S_ref13_Part)) → Option ((List UInt8))
  | 0 => fun _ => none
  | n + 1 => ref13_Text_b (ref13_Text n) n
theorem ok_ref13_Text (n : Nat) : ∀ (a0 : List (S_ref13_Part)) (r : (List UInt8)), ref13_Text n a0 = some r → CallsX Tryd.prog 10 [.recs (α := S_ref13_Part) (S_ref13_Part.mk [] [] 0 []) E_ref13_Part a0] (.str r) := by
  induction n with
  | zero => intro a0 r h; cases h
  | succ n ih => exact fun a0 r h => ok_ref13_Text_b (ref13_Text n) ih n a0 r h
def name_Sorted (n : Nat) (a0 : List (List UInt8)) : Option ((List (List UInt8))) :=
  if (decide ((List.length ([] : List (List UInt8)) + List.length a0) * (16 + 1) ≤ limit)) = true then (if (decide (List.length (([] : List (List UInt8)) ++ a0) * 17 ≤ limit)) = true then (if (decide (List.length (Sh.sort (([] : List (List UInt8)) ++ a0)) * 17 ≤ limit)) = true then (some (Lib.compact (Sh.sort (([] : List (List UInt8)) ++ a0)))) else none) else none) else none
theorem ok_name_Sorted (n : Nat) (a0 : List (List UInt8)) (r : (List (List UInt8))) (h : name_Sorted n a0 = some r) : CallsX Tryd.prog 22 [.recs (α := List UInt8) [] E_string a0] (.recs (α := List UInt8) [] E_string r) := by
  unfold name_Sorted at h
  refine callsX_of (fn := Tryd.f22) (by kernel_rfl) rfl (by kernel_rfl) (Nat.le_of_ble_eq_true (by kernel_rfl)) fun F0 w0 _ => ?_
  refine Wp.keep (kk := [0]) (kl := []) (K' := [(0, .recs (α := List UInt8) [] E_string a0)]) (L' := []) (by kernel_rfl) (by kernel_rfl) ?_
  refine Wp.seq ?_
  refine Wp.region hΓ [] [] [] [0] [] (K' := [(0, .recs (α := List UInt8) [] E_string a0)]) (L' := []) (ob := []) (by kernel_rfl) AllP.nil ?_
  refine To.thenN ?_
  refine Wp.seq ?_
  obtain ⟨hc3, h⟩ := chk_of h
  refine Wp.region hΓ [] [(0, .recs (α := List UInt8) [] E_string []), (2, .recs (α := List UInt8) [] E_string (([] : List (List UInt8)) ++ a0))] [] [3] [6] (K' := [(3, .row 6)]) (L' := [(6, 9, [.rowc false (α := List UInt8) [] E_string (([] : List (List UInt8)) ++ a0)])]) (ob := [(MkOb 1 [] 0 (.recs (α := List UInt8) [] E_string []) ∧ GoodR (.recs (α := List UInt8) [] E_string [])), (decide ((List.length ([] : List (List UInt8)) + List.length a0) * (16 + 1) ≤ limit)) = true, (AppOb [] E_string ([] : List (List UInt8)) (List.flatMap E_string a0) (List.length a0) (.recs (α := List UInt8) [] E_string (([] : List (List UInt8)) ++ a0)) ∧ GoodR (.recs (α := List UInt8) [] E_string (([] : List (List UInt8)) ++ a0)))]) (by kernel_rfl) (AllP.cons (mkOb (by kernel_rfl) rfl (by kernel_rfl) (good_E_string _)) (AllP.cons hc3 (AllP.cons (appOb rfl rfl (good_E_string _)) AllP.nil))) ?_
  refine To.thenN ?_
  refine Wp.seq ?_
  obtain ⟨u1, h⟩ := chk_of h
  refine Wp.region hΓ [] [] [(1, ⟨[(1000000, 6)], [(1000000, 6)], [.row 1000000], [(1000000, 9, [.rowc false (α := List UInt8) [] E_string (([] : List (List UInt8)) ++ a0)])], .tup [], [(1000000, 9, [.rowc false (α := List UInt8) [] E_string (Sh.sort (([] : List (List UInt8)) ++ a0))])]⟩)] [3] [6] (K' := [(3, .row 6)]) (L' := [(6, 9, [.rowc false (α := List UInt8) [] E_string (Sh.sort (([] : List (List UInt8)) ++ a0))])]) (ob := [CbOb (CallsB Tryd.prog) 31 [.row 6] [some (9, [.rowc false (α := List UInt8) [] E_string (([] : List (List UInt8)) ++ a0)])] ⟨[(1000000, 6)], [(1000000, 6)], [.row 1000000], [(1000000, 9, [.rowc false (α := List UInt8) [] E_string (([] : List (List UInt8)) ++ a0)])], .tup [], [(1000000, 9, [.rowc false (α := List UInt8) [] E_string (Sh.sort (([] : List (List UInt8)) ++ a0))])]⟩]) (by kernel_rfl) (AllP.cons (⟨Sh.sort31 u1, by kernel_rfl, by kernel_rfl⟩) AllP.nil) ?_
  refine To.thenN ?_
  refine Wp.seq ?_
  obtain ⟨u2, h⟩ := chk_of h
  refine Wp.region hΓ [] [] [(1, ⟨[(1000000, 6)], [], [.row 1000000], [(1000000, 9, [.rowc false (α := List UInt8) [] E_string (Sh.sort (([] : List (List UInt8)) ++ a0))])], .recs (α := List UInt8) [] E_string (Lib.compact (Sh.sort (([] : List (List UInt8)) ++ a0))), []⟩)] [2] [] (K' := [(2, .recs (α := List UInt8) [] E_string (Lib.compact (Sh.sort (([] : List (List UInt8)) ++ a0))))]) (L' := []) (ob := [CbOb (CallsB Tryd.prog) 32 [.row 6] [some (9, [.rowc false (α := List UInt8) [] E_string (Sh.sort (([] : List (List UInt8)) ++ a0))])] ⟨[(1000000, 6)], [], [.row 1000000], [(1000000, 9, [.rowc false (α := List UInt8) [] E_string (Sh.sort (([] : List (List UInt8)) ++ a0))])], .recs (α := List UInt8) [] E_string (Lib.compact (Sh.sort (([] : List (List UInt8)) ++ a0))), []⟩]) (by kernel_rfl) (AllP.cons (⟨Sh.compact32 u2, by kernel_rfl, by kernel_rfl⟩) AllP.nil) ?_
  refine To.thenN ?_
  refine Wp.ret ?_
  refine To.keep (kk := [2]) (kl := []) (K' := [(2, .recs (α := List UInt8) [] E_string (Lib.compact (Sh.sort (([] : List (List UInt8)) ++ a0))))]) (L' := []) (by kernel_rfl) (by kernel_rfl) ?_
  cases h
  exact To.done hΓ (by kernel_rfl)
def tmpl_Names_j3 (R_tmpl_Names : (List (S_tmpl_Part)) → Option ((List (List UInt8)))) (n : Nat) (v3 : List (List UInt8)) (v6 : List (S_tmpl_Part)) (v7 : Int) (v8 : Int) (v14 : Bool) (b5 : S_tmpl_Part) : Option ((List (List UInt8))) :=
  if v14 = true then (if (decide ((List.length v3 + List.length ([b5.f_Name] : List (List UInt8))) * (16 + 1) ≤ limit)) = true then (some (v3 ++ ([b5.f_Name] : List (List UInt8)))) else none)
  else some v3
theorem ok_tmpl_Names_j3 (R_tmpl_Names : (List (S_tmpl_Part)) → Option ((List (List UInt8)))) (hR_tmpl_Names : ∀ (a0 : List (S_tmpl_Part)) (r : (List (List UInt8))), R_tmpl_Names a0 = some r → CallsX Tryd.prog 12 [.recs (α := S_tmpl_Part) (S_tmpl_Part.mk [] [] 0 []) E_tmpl_Part a0] (.recs (α := List UInt8) [] E_string r)) (n : Nat) (v3 : List (List UInt8)) (v6 : List (S_tmpl_Part)) (v7 : Int) (v8 : Int) (v14 : Bool) (b5 : S_tmpl_Part) (o : (List (List UInt8))) (h : tmpl_Names_j3 R_tmpl_Names n v3 v6 v7 v8 v14 b5 = some o) {F0 : Fz} {w0 : Pt Tryd.prog} {Q : Exit → Act → World → Prop} (hQ : To 28 F0 w0 [(3, .row 1003), (5, .own 5 0), (6, .recs (α := S_tmpl_Part) (S_tmpl_Part.mk [] [] 0 []) E_tmpl_Part v6), (7, .val (.int .i64 v7)), (8, .val (.int .i64 v8))] [(5, 32, [.str b5.f_Name, .str b5.f_Text, .val (.int .i64 b5.f_Op), .tree (α := S_tmpl_Part) (S_tmpl_Part.mk [] [] 0 []) pre_S_tmpl_Part kids_S_tmpl_Part b5.f_Sub]), (1003, 9, [.rowc false (α := List UInt8) [] E_string o])] .normal Q) : Wp Tryd.prog 28 F0 w0 [(3, .row 1003), (5, .own 5 0), (6, .recs (α := S_tmpl_Part) (S_tmpl_Part.mk [] [] 0 []) E_tmpl_Part v6), (7, .val (.int .i64 v7)), (8, .val (.int .i64 v8)), (14, .val (.bool v14))] [(5, 32, [.str b5.f_Name, .str b5.f_Text, .val (.int .i64 b5.f_Op), .tree (α := S_tmpl_Part) (S_tmpl_Part.mk [] [] 0 []) pre_S_tmpl_Part kids_S_tmpl_Part b5.f_Sub]), (1003, 9, [.rowc false (α := List UInt8) [] E_string v3])] (cB (cA (cB (cI (cA (cB (cB (cI (cI (cB (cA (cB (cB (cF Tryd.f12)))))))))))))) Q := by
  unfold tmpl_Names_j3 at h
  refine Wp.cond (b := v14) (by kernel_rfl) (fun hb => ?_) (fun hb => ?_)
  · replace h := if_t hb h
    obtain ⟨hc1, h⟩ := chk_of h
    refine Wp.region hΓ [] [(3, .recs (α := List UInt8) [] E_string [b5.f_Name]), (4, .recs (α := List UInt8) [] E_string (v3 ++ ([b5.f_Name] : List (List UInt8))))] [] [3, 5, 6, 7, 8] [5, 19] (K' := [(3, .row 19), (5, .own 5 0), (6, .recs (α := S_tmpl_Part) (S_tmpl_Part.mk [] [] 0 []) E_tmpl_Part v6), (7, .val (.int .i64 v7)), (8, .val (.int .i64 v8))]) (L' := [(5, 32, [.str b5.f_Name, .str b5.f_Text, .val (.int .i64 b5.f_Op), .tree (α := S_tmpl_Part) (S_tmpl_Part.mk [] [] 0 []) pre_S_tmpl_Part kids_S_tmpl_Part b5.f_Sub]), (19, 9, [.rowc false (α := List UInt8) [] E_string (v3 ++ ([b5.f_Name] : List (List UInt8)))])]) (ob := [(MkOb 1 [.str b5.f_Name] 1 (.recs (α := List UInt8) [] E_string [b5.f_Name]) ∧ GoodR (.recs (α := List UInt8) [] E_string [b5.f_Name])), (decide ((List.length v3 + List.length ([b5.f_Name] : List (List UInt8))) * (16 + 1) ≤ limit)) = true, (AppOb [] E_string v3 (List.flatMap E_string ([b5.f_Name] : List (List UInt8))) (List.length ([b5.f_Name] : List (List UInt8))) (.recs (α := List UInt8) [] E_string (v3 ++ ([b5.f_Name] : List (List UInt8)))) ∧ GoodR (.recs (α := List UInt8) [] E_string (v3 ++ ([b5.f_Name] : List (List UInt8)))))]) (by kernel_rfl) (AllP.cons (mkOb (by kernel_rfl) rfl (by kernel_rfl) (good_E_string _)) (AllP.cons hc1 (AllP.cons (appOb rfl rfl (good_E_string _)) AllP.nil))) ?_
    refine To.keep (kk := [3, 5, 6, 7, 8]) (kl := [5, 19]) (K' := [(3, .row 19), (5, .own 5 0), (6, .recs (α := S_tmpl_Part) (S_tmpl_Part.mk [] [] 0 []) E_tmpl_Part v6), (7, .val (.int .i64 v7)), (8, .val (.int .i64 v8))]) (L' := [(5, 32, [.str b5.f_Name, .str b5.f_Text, .val (.int .i64 b5.f_Op), .tree (α := S_tmpl_Part) (S_tmpl_Part.mk [] [] 0 []) pre_S_tmpl_Part kids_S_tmpl_Part b5.f_Sub]), (19, 9, [.rowc false (α := List UInt8) [] E_string (v3 ++ ([b5.f_Name] : List (List UInt8)))])]) (by kernel_rfl) (by kernel_rfl) ?_
    refine To.pre (St.rename 19 1003 (by decide) (K' := [(3, .row 1003), (5, .own 5 0), (6, .recs (α := S_tmpl_Part) (S_tmpl_Part.mk [] [] 0 []) E_tmpl_Part v6), (7, .val (.int .i64 v7)), (8, .val (.int .i64 v8))]) (L' := [(5, 32, [.str b5.f_Name, .str b5.f_Text, .val (.int .i64 b5.f_Op), .tree (α := S_tmpl_Part) (S_tmpl_Part.mk [] [] 0 []) pre_S_tmpl_Part kids_S_tmpl_Part b5.f_Sub]), (1003, 9, [.rowc false (α := List UInt8) [] E_string (v3 ++ ([b5.f_Name] : List (List UInt8)))])]) (by kernel_rfl) (by kernel_rfl) (by kernel_rfl)) ?_
    refine To.keep (kk := [3, 5, 6, 7, 8]) (kl := [5, 1003]) (K' := [(3, .row 1003), (5, .own 5 0), (6, .recs (α := S_tmpl_Part) (S_tmpl_Part.mk [] [] 0 []) E_tmpl_Part v6), (7, .val (.int .i64 v7)), (8, .val (.int .i64 v8))]) (L' := [(5, 32, [.str b5.f_Name, .str b5.f_Text, .val (.int .i64 b5.f_Op), .tree (α := S_tmpl_Part) (S_tmpl_Part.mk [] [] 0 []) pre_S_tmpl_Part kids_S_tmpl_Part b5.f_Sub]), (1003, 9, [.rowc false (α := List UInt8) [] E_string (v3 ++ ([b5.f_Name] : List (List UInt8)))])]) (by kernel_rfl) (by kernel_rfl) ?_
    cases h
    exact hQ
  · replace h := if_f hb h
    refine Wp.skip ?_
    refine To.keep (kk := [3, 5, 6, 7, 8]) (kl := [5, 1003]) (K' := [(3, .row 1003), (5, .own 5 0), (6, .recs (α := S_tmpl_Part) (S_tmpl_Part.mk [] [] 0 []) E_tmpl_Part v6), (7, .val (.int .i64 v7)), (8, .val (.int .i64 v8))]) (L' := [(5, 32, [.str b5.f_Name, .str b5.f_Text, .val (.int .i64 b5.f_Op), .tree (α := S_tmpl_Part) (S_tmpl_Part.mk [] [] 0 []) pre_S_tmpl_Part kids_S_tmpl_Part b5.f_Sub]), (1003, 9, [.rowc false (α := List UInt8) [] E_string v3])]) (by kernel_rfl) (by kernel_rfl) ?_
    cases h
    exact hQ
def tmpl_Names_j2 (R_tmpl_Names : (List (S_tmpl_Part)) → Option ((List (List UInt8)))) (n : Nat) (v3 : List (List UInt8)) (v6 : List (S_tmpl_Part)) (v7 : Int) (v8 : Int) : Option ((List (List UInt8))) :=
  if (decide (0 ≤ v8 ∧ v8 < (List.length v6 : Int))) = true then ((tmpl_Names_j3 R_tmpl_Names n v3 v6 v7 v8 ((((v6)[Int.toNat v8]?.getD (S_tmpl_Part.mk [] [] 0 [])).f_Op) != 0) (S_tmpl_Part.mk (((v6)[Int.toNat v8]?.getD (S_tmpl_Part.mk [] [] 0 [])).f_Name) (((v6)[Int.toNat v8]?.getD (S_tmpl_Part.mk [] [] 0 [])).f_Text) (((v6)[Int.toNat v8]?.getD (S_tmpl_Part.mk [] [] 0 [])).f_Op) (((v6)[Int.toNat v8]?.getD (S_tmpl_Part.mk [] [] 0 [])).f_Sub))).bind fun o1 =>
  (R_tmpl_Names (((v6)[Int.toNat v8]?.getD (S_tmpl_Part.mk [] [] 0 [])).f_Sub)).bind fun r2 =>
  if (decide ((List.length o1 + List.length r2) * (16 + 1) ≤ limit)) = true then (some (o1 ++ r2)) else none) else none
theorem ok_tmpl_Names_j2 (R_tmpl_Names : (List (S_tmpl_Part)) → Option ((List (List UInt8)))) (hR_tmpl_Names : ∀ (a0 : List (S_tmpl_Part)) (r : (List (List UInt8))), R_tmpl_Names a0 = some r → CallsX Tryd.prog 12 [.recs (α := S_tmpl_Part) (S_tmpl_Part.mk [] [] 0 []) E_tmpl_Part a0] (.recs (α := List UInt8) [] E_string r)) (n : Nat) (v3 : List (List UInt8)) (v6 : List (S_tmpl_Part)) (v7 : Int) (v8 : Int) (o : (List (List UInt8))) (h : tmpl_Names_j2 R_tmpl_Names n v3 v6 v7 v8 = some o) {F0 : Fz} {w0 : Pt Tryd.prog} {Q : Exit → Act → World → Prop} (hQ : To 28 F0 w0 [(3, .row 1003), (6, .recs (α := S_tmpl_Part) (S_tmpl_Part.mk [] [] 0 []) E_tmpl_Part v6), (7, .val (.int .i64 v7)), (8, .val (.int .i64 v8))] [(1003, 9, [.rowc false (α := List UInt8) [] E_string o])] .normal Q) : Wp Tryd.prog 28 F0 w0 [(3, .row 1003), (6, .recs (α := S_tmpl_Part) (S_tmpl_Part.mk [] [] 0 []) E_tmpl_Part v6), (7, .val (.int .i64 v7)), (8, .val (.int .i64 v8))] [(1003, 9, [.rowc false (α := List UInt8) [] E_string v3])] (cA (cB (cB (cI (cI (cB (cA (cB (cB (cF Tryd.f12)))))))))) Q := by
  unfold tmpl_Names_j2 at h
  refine Wp.block ?_
  refine Wp.seq ?_
  obtain ⟨hc4, h⟩ := chk_of h
  refine Wp.region hΓ [] [] [] [3, 5, 6, 7, 8] [5, 1003] (K' := [(3, .row 1003), (5, .own 5 0), (6, .recs (α := S_tmpl_Part) (S_tmpl_Part.mk [] [] 0 []) E_tmpl_Part v6), (7, .val (.int .i64 v7)), (8, .val (.int .i64 v8))]) (L' := [(5, 32, [.str (((v6)[Int.toNat v8]?.getD (S_tmpl_Part.mk [] [] 0 [])).f_Name), .str (((v6)[Int.toNat v8]?.getD (S_tmpl_Part.mk [] [] 0 [])).f_Text), .val (.int .i64 (((v6)[Int.toNat v8]?.getD (S_tmpl_Part.mk [] [] 0 [])).f_Op)), .tree (α := S_tmpl_Part) (S_tmpl_Part.mk [] [] 0 []) pre_S_tmpl_Part kids_S_tmpl_Part (((v6)[Int.toNat v8]?.getD (S_tmpl_Part.mk [] [] 0 [])).f_Sub)]), (1003, 9, [.rowc false (α := List UInt8) [] E_string v3])]) (ob := [(decide (0 ≤ v8 ∧ v8 < (List.length v6 : Int))) = true]) (by kernel_rfl) (AllP.cons hc4 AllP.nil) ?_
  refine To.thenN ?_
  refine Wp.seq ?_
  refine Wp.seq ?_
  refine Wp.region hΓ [] [] [] [3, 5, 6, 7, 8, 14] [5, 1003] (K' := [(3, .row 1003), (5, .own 5 0), (6, .recs (α := S_tmpl_Part) (S_tmpl_Part.mk [] [] 0 []) E_tmpl_Part v6), (7, .val (.int .i64 v7)), (8, .val (.int .i64 v8)), (14, .val (.bool ((((v6)[Int.toNat v8]?.getD (S_tmpl_Part.mk [] [] 0 [])).f_Op) != 0)))]) (L' := [(5, 32, [.str (((v6)[Int.toNat v8]?.getD (S_tmpl_Part.mk [] [] 0 [])).f_Name), .str (((v6)[Int.toNat v8]?.getD (S_tmpl_Part.mk [] [] 0 [])).f_Text), .val (.int .i64 (((v6)[Int.toNat v8]?.getD (S_tmpl_Part.mk [] [] 0 [])).f_Op)), .tree (α := S_tmpl_Part) (S_tmpl_Part.mk [] [] 0 []) pre_S_tmpl_Part kids_S_tmpl_Part (((v6)[Int.toNat v8]?.getD (S_tmpl_Part.mk [] [] 0 [])).f_Sub)]), (1003, 9, [.rowc false (α := List UInt8) [] E_string v3])]) (ob := []) (by kernel_rfl) AllP.nil ?_
  refine To.thenN ?_
  obtain ⟨o1, ho1, h⟩ := bind_of h
  refine Wp.keep (kk := [3, 5, 6, 7, 8, 14]) (kl := [5, 1003]) (K' := [(3, .row 1003), (5, .own 5 0), (6, .recs (α := S_tmpl_Part) (S_tmpl_Part.mk [] [] 0 []) E_tmpl_Part v6), (7, .val (.int .i64 v7)), (8, .val (.int .i64 v8)), (14, .val (.bool ((((v6)[Int.toNat v8]?.getD (S_tmpl_Part.mk [] [] 0 [])).f_Op) != 0)))]) (L' := [(5, 32, [.str (((v6)[Int.toNat v8]?.getD (S_tmpl_Part.mk [] [] 0 [])).f_Name), .str (((v6)[Int.toNat v8]?.getD (S_tmpl_Part.mk [] [] 0 [])).f_Text), .val (.int .i64 (((v6)[Int.toNat v8]?.getD (S_tmpl_Part.mk [] [] 0 [])).f_Op)), .tree (α := S_tmpl_Part) (S_tmpl_Part.mk [] [] 0 []) pre_S_tmpl_Part kids_S_tmpl_Part (((v6)[Int.toNat v8]?.getD (S_tmpl_Part.mk [] [] 0 [])).f_Sub)]), (1003, 9, [.rowc false (α := List UInt8) [] E_string v3])]) (by kernel_rfl) (by kernel_rfl) ?_
  refine ok_tmpl_Names_j3 R_tmpl_Names hR_tmpl_Names n v3 v6 v7 v8 ((((v6)[Int.toNat v8]?.getD (S_tmpl_Part.mk [] [] 0 [])).f_Op) != 0) (S_tmpl_Part.mk (((v6)[Int.toNat v8]?.getD (S_tmpl_Part.mk [] [] 0 [])).f_Name) (((v6)[Int.toNat v8]?.getD (S_tmpl_Part.mk [] [] 0 [])).f_Text) (((v6)[Int.toNat v8]?.getD (S_tmpl_Part.mk [] [] 0 [])).f_Op) (((v6)[Int.toNat v8]?.getD (S_tmpl_Part.mk [] [] 0 [])).f_Sub)) o1 ho1 ?_
  refine To.thenN ?_
  obtain ⟨r2, hr2, h⟩ := bind_of h
  obtain ⟨hc3, h⟩ := chk_of h
  refine Wp.region hΓ [] [(3, .recs (α := List UInt8) [] E_string r2), (4, .recs (α := List UInt8) [] E_string (o1 ++ r2))] [] [3, 6, 7, 8] [24] (K' := [(3, .row 24), (6, .recs (α := S_tmpl_Part) (S_tmpl_Part.mk [] [] 0 []) E_tmpl_Part v6), (7, .val (.int .i64 v7)), (8, .val (.int .i64 v8))]) (L' := [(24, 9, [.rowc false (α := List UInt8) [] E_string (o1 ++ r2)])]) (ob := [(true = true → CX Tryd.prog 12 [.recs (α := S_tmpl_Part) (S_tmpl_Part.mk [] [] 0 []) E_tmpl_Part (((v6)[Int.toNat v8]?.getD (S_tmpl_Part.mk [] [] 0 [])).f_Sub)] (.recs (α := List UInt8) [] E_string r2)), (decide ((List.length o1 + List.length r2) * (16 + 1) ≤ limit)) = true, (AppOb [] E_string o1 (List.flatMap E_string r2) (List.length r2) (.recs (α := List UInt8) [] E_string (o1 ++ r2)) ∧ GoodR (.recs (α := List UInt8) [] E_string (o1 ++ r2)))]) (by kernel_rfl) (AllP.cons (fun _ => cx (hR_tmpl_Names (((v6)[Int.toNat v8]?.getD (S_tmpl_Part.mk [] [] 0 [])).f_Sub) _ hr2)) (AllP.cons hc3 (AllP.cons (appOb rfl rfl (good_E_string _)) AllP.nil))) ?_
  refine To.blockN ?_
  refine To.keep (kk := [3, 6, 7, 8]) (kl := [24]) (K' := [(3, .row 24), (6, .recs (α := S_tmpl_Part) (S_tmpl_Part.mk [] [] 0 []) E_tmpl_Part v6), (7, .val (.int .i64 v7)), (8, .val (.int .i64 v8))]) (L' := [(24, 9, [.rowc false (α := List UInt8) [] E_string (o1 ++ r2)])]) (by kernel_rfl) (by kernel_rfl) ?_
  refine To.pre (St.rename 24 1003 (by decide) (K' := [(3, .row 1003), (6, .recs (α := S_tmpl_Part) (S_tmpl_Part.mk [] [] 0 []) E_tmpl_Part v6), (7, .val (.int .i64 v7)), (8, .val (.int .i64 v8))]) (L' := [(1003, 9, [.rowc false (α := List UInt8) [] E_string (o1 ++ r2)])]) (by kernel_rfl) (by kernel_rfl) (by kernel_rfl)) ?_
  refine To.keep (kk := [3, 6, 7, 8]) (kl := [1003]) (K' := [(3, .row 1003), (6, .recs (α := S_tmpl_Part) (S_tmpl_Part.mk [] [] 0 []) E_tmpl_Part v6), (7, .val (.int .i64 v7)), (8, .val (.int .i64 v8))]) (L' := [(1003, 9, [.rowc false (α := List UInt8) [] E_string (o1 ++ r2)])]) (by kernel_rfl) (by kernel_rfl) ?_
  cases h
  exact hQ
def tmpl_Names_l1 (R_tmpl_Names : (List (S_tmpl_Part)) → Option ((List (List UInt8)))) (n : Nat) (v6 : List (S_tmpl_Part)) (v7 : Int) : Nat → (List (List UInt8)) → Int → Option ((List (List UInt8)))
  | 0, _, _ => none
  | k + 1, v3, v8 => if (decide (v8 < v7)) = true then ((tmpl_Names_j2 R_tmpl_Names n v3 v6 v7 v8).bind fun o1 =>
  tmpl_Names_l1 R_tmpl_Names n v6 v7 k o1 (IntKind.wrap .i64 (v8 + 1)))
  else some v3
theorem ok_tmpl_Names_l1 (R_tmpl_Names : (List (S_tmpl_Part)) → Option ((List (List UInt8)))) (hR_tmpl_Names : ∀ (a0 : List (S_tmpl_Part)) (r : (List (List UInt8))), R_tmpl_Names a0 = some r → CallsX Tryd.prog 12 [.recs (α := S_tmpl_Part) (S_tmpl_Part.mk [] [] 0 []) E_tmpl_Part a0] (.recs (α := List UInt8) [] E_string r)) (n : Nat) (v6 : List (S_tmpl_Part)) (v7 : Int) {F0 : Fz} {w0 : Pt Tryd.prog} {Q : Exit → Act → World → Prop} (k : Nat) : ∀ (v3 : List (List UInt8)) (v8 : Int) (o : (List (List UInt8))), tmpl_Names_l1 R_tmpl_Names n v6 v7 k v3 v8 = some o → To 28 F0 w0 [(3, .row 1003)] [(1003, 9, [.rowc false (α := List UInt8) [] E_string o])] (.exit 0) Q → WL Tryd.prog 28 F0 w0 [(3, .row 1003), (6, .recs (α := S_tmpl_Part) (S_tmpl_Part.mk [] [] 0 []) E_tmpl_Part v6), (7, .val (.int .i64 v7)), (8, .val (.int .i64 v8))] [(1003, 9, [.rowc false (α := List UInt8) [] E_string v3])] (cI (cI (cB (cA (cB (cB (cF Tryd.f12))))))) Q := by
  induction k with
  | zero => intro v3 v8 o h; cases h
  | succ k ih =>
    intro v3 v8 o h hQ
    rw [tmpl_Names_l1] at h
    refine WL.round ?_
    refine Wp.seq ?_
    refine Wp.region hΓ [] [] [] [3, 6, 7, 8, 9] [1003] (K' := [(3, .row 1003), (6, .recs (α := S_tmpl_Part) (S_tmpl_Part.mk [] [] 0 []) E_tmpl_Part v6), (7, .val (.int .i64 v7)), (8, .val (.int .i64 v8)), (9, .val (.bool (decide (v8 < v7))))]) (L' := [(1003, 9, [.rowc false (α := List UInt8) [] E_string v3])]) (ob := []) (by kernel_rfl) AllP.nil ?_
    refine To.thenN ?_
    refine Wp.seq ?_
    refine Wp.cond (b := (decide (v8 < v7))) (by kernel_rfl) (fun hb => ?_) (fun hb => ?_)
    · replace h := if_t hb h
      refine Wp.skip ?_
      refine To.thenN ?_
      refine Wp.seq ?_
      obtain ⟨o1, ho1, h⟩ := bind_of h
      refine Wp.keep (kk := [3, 6, 7, 8]) (kl := [1003]) (K' := [(3, .row 1003), (6, .recs (α := S_tmpl_Part) (S_tmpl_Part.mk [] [] 0 []) E_tmpl_Part v6), (7, .val (.int .i64 v7)), (8, .val (.int .i64 v8))]) (L' := [(1003, 9, [.rowc false (α := List UInt8) [] E_string v3])]) (by kernel_rfl) (by kernel_rfl) ?_
      refine ok_tmpl_Names_j2 R_tmpl_Names hR_tmpl_Names n v3 v6 v7 v8 o1 ho1 ?_
      refine To.thenN ?_
      refine Wp.region hΓ [] [] [] [3, 6, 7, 8] [1003] (K' := [(3, .row 1003), (6, .recs (α := S_tmpl_Part) (S_tmpl_Part.mk [] [] 0 []) E_tmpl_Part v6), (7, .val (.int .i64 v7)), (8, .val (.int .i64 (IntKind.wrap .i64 (v8 + 1))))]) (L' := [(1003, 9, [.rowc false (α := List UInt8) [] E_string o1])]) (ob := []) (by kernel_rfl) AllP.nil ?_
      refine To.keep (kk := [3, 6, 7, 8]) (kl := [1003]) (K' := [(3, .row 1003), (6, .recs (α := S_tmpl_Part) (S_tmpl_Part.mk [] [] 0 []) E_tmpl_Part v6), (7, .val (.int .i64 v7)), (8, .val (.int .i64 (IntKind.wrap .i64 (v8 + 1))))]) (L' := [(1003, 9, [.rowc false (α := List UInt8) [] E_string o1])]) (by kernel_rfl) (by kernel_rfl) ?_
      refine To.again ?_
      exact ih o1 (IntKind.wrap .i64 (v8 + 1)) _ h hQ
    · replace h := if_f hb h
      refine Wp.exit ?_
      refine To.thenX ?_
      refine To.thenX ?_
      refine To.keep (kk := [3]) (kl := [1003]) (K' := [(3, .row 1003)]) (L' := [(1003, 9, [.rowc false (α := List UInt8) [] E_string v3])]) (by kernel_rfl) (by kernel_rfl) ?_
      cases h
      exact hQ
def tmpl_Names_b (R_tmpl_Names : (List (S_tmpl_Part)) → Option ((List (List UInt8)))) (n : Nat) (a0 : List (S_tmpl_Part)) : Option ((List (List UInt8))) :=
  (tmpl_Names_l1 R_tmpl_Names n a0 (List.length a0 : Int) n ([] : List (List UInt8)) 0).bind fun o1 =>
  (name_Sorted n o1).bind fun r2 =>
  some r2
theorem ok_tmpl_Names_b (R_tmpl_Names : (List (S_tmpl_Part)) → Option ((List (List UInt8)))) (hR_tmpl_Names : ∀ (a0 : List (S_tmpl_Part)) (r : (List (List UInt8))), R_tmpl_Names a0 = some r → CallsX Tryd.prog 12 [.recs (α := S_tmpl_Part) (S_tmpl_Part.mk [] [] 0 []) E_tmpl_Part a0] (.recs (α := List UInt8) [] E_string r)) (n : Nat) (a0 : List (S_tmpl_Part)) (r : (List (List UInt8))) (h : tmpl_Names_b R_tmpl_Names n a0 = some r) : CallsX Tryd.prog 12 [.recs (α := S_tmpl_Part) (S_tmpl_Part.mk [] [] 0 []) E_tmpl_Part a0] (.recs (α := List UInt8) [] E_string r) := by
  unfold tmpl_Names_b at h
  refine callsX_of (fn := Tryd.f12) (by kernel_rfl) rfl (by kernel_rfl) (Nat.le_of_ble_eq_true (by kernel_rfl)) fun F0 w0 _ => ?_
  refine Wp.keep (kk := [0]) (kl := []) (K' := [(0, .recs (α := S_tmpl_Part) (S_tmpl_Part.mk [] [] 0 []) E_tmpl_Part a0)]) (L' := []) (by kernel_rfl) (by kernel_rfl) ?_
  refine Wp.seq ?_
  refine Wp.region hΓ [] [] [] [0] [] (K' := [(0, .recs (α := S_tmpl_Part) (S_tmpl_Part.mk [] [] 0 []) E_tmpl_Part a0)]) (L' := []) (ob := []) (by kernel_rfl) AllP.nil ?_
  refine To.thenN ?_
  refine Wp.seq ?_
  refine Wp.region hΓ [] [] [] [0, 3] [] (K' := [(0, .recs (α := S_tmpl_Part) (S_tmpl_Part.mk [] [] 0 []) E_tmpl_Part a0), (3, .val (.slice none 0 0))]) (L' := []) (ob := []) (by kernel_rfl) AllP.nil ?_
  refine To.thenN ?_
  refine Wp.seq ?_
  refine Wp.seq ?_
  refine Wp.region hΓ [] [] [] [3, 6, 7, 8] [] (K' := [(3, .val (.slice none 0 0)), (6, .recs (α := S_tmpl_Part) (S_tmpl_Part.mk [] [] 0 []) E_tmpl_Part a0), (7, .val (.int .i64 (List.length a0 : Int))), (8, .val (.int .i64 0))]) (L' := []) (ob := []) (by kernel_rfl) AllP.nil ?_
  refine To.thenN ?_
  refine Wp.block ?_
  obtain ⟨o1, ho1, h⟩ := bind_of h
  refine Wp.keep (kk := [3, 6, 7, 8]) (kl := []) (K' := [(3, .val (.slice none 0 0)), (6, .recs (α := S_tmpl_Part) (S_tmpl_Part.mk [] [] 0 []) E_tmpl_Part a0), (7, .val (.int .i64 (List.length a0 : Int))), (8, .val (.int .i64 0))]) (L' := []) (by kernel_rfl) (by kernel_rfl) ?_
  refine Wp.pre (St.vacant (t := 3) (k := 1003) (e := 9) (K' := [(3, .row 1003), (6, .recs (α := S_tmpl_Part) (S_tmpl_Part.mk [] [] 0 []) E_tmpl_Part a0), (7, .val (.int .i64 (List.length a0 : Int))), (8, .val (.int .i64 0))]) (good_E_string _) (by decide) (by kernel_rfl) (by kernel_rfl)) ?_
  refine Wp.keep (kk := [3, 6, 7, 8]) (kl := [1003]) (K' := [(3, .row 1003), (6, .recs (α := S_tmpl_Part) (S_tmpl_Part.mk [] [] 0 []) E_tmpl_Part a0), (7, .val (.int .i64 (List.length a0 : Int))), (8, .val (.int .i64 0))]) (L' := [(1003, 9, [.rowc false (α := List UInt8) [] E_string []])]) (by kernel_rfl) (by kernel_rfl) ?_
  refine Wp.loopL ?_
  refine ok_tmpl_Names_l1 R_tmpl_Names hR_tmpl_Names n a0 (List.length a0 : Int) n ([] : List (List UInt8)) 0 o1 ho1 ?_
  refine To.blockX ?_
  refine To.thenN ?_
  refine Wp.seq ?_
  obtain ⟨r2, hr2, h⟩ := bind_of h
  refine Wp.region hΓ [(1, [1003])] [(1, .recs (α := List UInt8) [] E_string r2)] [] [2] [] (K' := [(2, .recs (α := List UInt8) [] E_string r2)]) (L' := []) (ob := [(true = true → CX Tryd.prog 22 [.recs (α := List UInt8) [] E_string o1] (.recs (α := List UInt8) [] E_string r2))]) (by kernel_rfl) (AllP.cons (fun _ => cx (ok_name_Sorted n o1 _ hr2)) AllP.nil) ?_
  refine To.thenN ?_
  refine Wp.ret ?_
  refine To.keep (kk := [2]) (kl := []) (K' := [(2, .recs (α := List UInt8) [] E_string r2)]) (L' := []) (by kernel_rfl) (by kernel_rfl) ?_
  cases h
  exact To.done hΓ (by kernel_rfl)
def tmpl_Names : Nat → (List (S_tmpl_Part)) → Option ((List (List UInt8)))
  | 0 => fun _ => none
  | n + 1 => tmpl_Names_b (tmpl_Names n) n
theorem ok_tmpl_Names (n : Nat) : ∀ (a0 : List (S_tmpl_Part)) (r : (List (List UInt8))), tmpl_Names n a0 = some r → CallsX Tryd.prog 12 [.recs (α := S_tmpl_Part) (S_tmpl_Part.mk [] [] 0 []) E_tmpl_Part a0] (.recs (α := List UInt8) [] E_string r) := by
  induction n with
  | zero => intro a0 r h; cases h
  | succ n ih => exact fun a0 r h => ok_tmpl_Names_b (tmpl_Names n) ih n a0 r h
def ref13_names_j3 (R_ref13_names : (List (S_ref13_Part)) → Option ((List (List UInt8)))) (n : Nat) (v0 : List (S_ref13_Part)) (v3 : List (List UInt8)) (v4 : Int) (v19 : Bool) : Option ((List (List UInt8))) :=
  if v19 = true then (if (decide (0 ≤ v4 ∧ v4 < (List.length v0 : Int))) = true then (if (decide ((List.length v3 + List.length ([((v0)[Int.toNat v4]?.getD (S_ref13_Part.mk [] [] 0 [])).f_Name] : List (List UInt8))) * (16 + 1) ≤ limit)) = true then (some (v3 ++ ([((v0)[Int.toNat v4]?.getD (S_ref13_Part.mk [] [] 0 [])).f_Name] : List (List UInt8)))) else none) else none)
  else some v3
theorem ok_ref13_names_j3 (R_ref13_names : (List (S_ref13_Part)) → Option ((List (List UInt8)))) (hR_ref13_names : ∀ (a0 : List (S_ref13_Part)) (r : (List (List UInt8))), R_ref13_names a0 = some r → CallsX Tryd.prog 24 [.recs (α := S_ref13_Part) (S_ref13_Part.mk [] [] 0 []) E_ref13_Part a0] (.recs (α := List UInt8) [] E_string r)) (n : Nat) (v0 : List (S_ref13_Part)) (v3 : List (List UInt8)) (v4 : Int) (v19 : Bool) (o : (List (List UInt8))) (h : ref13_names_j3 R_ref13_names n v0 v3 v4 v19 = some o) {F0 : Fz} {w0 : Pt Tryd.prog} {Q : Exit → Act → World → Prop} (hQ : To 48 F0 w0 [(0, .recs (α := S_ref13_Part) (S_ref13_Part.mk [] [] 0 []) E_ref13_Part v0), (3, .row 1003), (4, .val (.int .i64 v4))] [(1003, 9, [.rowc false (α := List UInt8) [] E_string o])] .normal Q) : Wp Tryd.prog 48 F0 w0 [(0, .recs (α := S_ref13_Part) (S_ref13_Part.mk [] [] 0 []) E_ref13_Part v0), (3, .row 1003), (4, .val (.int .i64 v4)), (19, .val (.bool v19))] [(1003, 9, [.rowc false (α := List UInt8) [] E_string v3])] (cB (cA (cI (cA (cB (cI (cI (cB (cA (cB (cB (cF Tryd.f24)))))))))))) Q := by
  unfold ref13_names_j3 at h
  refine Wp.cond (b := v19) (by kernel_rfl) (fun hb => ?_) (fun hb => ?_)
  · replace h := if_t hb h
    obtain ⟨hc1, h⟩ := chk_of h
    obtain ⟨hc2, h⟩ := chk_of h
    refine Wp.region hΓ [] [(6, .recs (α := List UInt8) [] E_string ([((v0)[Int.toNat v4]?.getD (S_ref13_Part.mk [] [] 0 [])).f_Name])), (7, .recs (α := List UInt8) [] E_string (v3 ++ ([((v0)[Int.toNat v4]?.getD (S_ref13_Part.mk [] [] 0 [])).f_Name] : List (List UInt8))))] [] [0, 3, 4] [27] (K' := [(0, .recs (α := S_ref13_Part) (S_ref13_Part.mk [] [] 0 []) E_ref13_Part v0), (3, .row 27), (4, .val (.int .i64 v4))]) (L' := [(27, 9, [.rowc false (α := List UInt8) [] E_string (v3 ++ ([((v0)[Int.toNat v4]?.getD (S_ref13_Part.mk [] [] 0 [])).f_Name] : List (List UInt8)))])]) (ob := [(decide (0 ≤ v4 ∧ v4 < (List.length v0 : Int))) = true, (MkOb 1 [.str (((v0)[Int.toNat v4]?.getD (S_ref13_Part.mk [] [] 0 [])).f_Name)] 1 (.recs (α := List UInt8) [] E_string ([((v0)[Int.toNat v4]?.getD (S_ref13_Part.mk [] [] 0 [])).f_Name])) ∧ GoodR (.recs (α := List UInt8) [] E_string ([((v0)[Int.toNat v4]?.getD (S_ref13_Part.mk [] [] 0 [])).f_Name]))), (decide ((List.length v3 + List.length ([((v0)[Int.toNat v4]?.getD (S_ref13_Part.mk [] [] 0 [])).f_Name] : List (List UInt8))) * (16 + 1) ≤ limit)) = true, (AppOb [] E_string v3 (List.flatMap E_string ([((v0)[Int.toNat v4]?.getD (S_ref13_Part.mk [] [] 0 [])).f_Name] : List (List UInt8))) (List.length ([((v0)[Int.toNat v4]?.getD (S_ref13_Part.mk [] [] 0 [])).f_Name] : List (List UInt8))) (.recs (α := List UInt8) [] E_string (v3 ++ ([((v0)[Int.toNat v4]?.getD (S_ref13_Part.mk [] [] 0 [])).f_Name] : List (List UInt8)))) ∧ GoodR (.recs (α := List UInt8) [] E_string (v3 ++ ([((v0)[Int.toNat v4]?.getD (S_ref13_Part.mk [] [] 0 [])).f_Name] : List (List UInt8)))))]) (by kernel_rfl) (AllP.cons hc1 (AllP.cons (mkOb (by kernel_rfl) rfl (by kernel_rfl) (good_E_string _)) (AllP.cons hc2 (AllP.cons (appOb rfl rfl (good_E_string _)) AllP.nil)))) ?_
    refine To.keep (kk := [0, 3, 4]) (kl := [27]) (K' := [(0, .recs (α := S_ref13_Part) (S_ref13_Part.mk [] [] 0 []) E_ref13_Part v0), (3, .row 27), (4, .val (.int .i64 v4))]) (L' := [(27, 9, [.rowc false (α := List UInt8) [] E_string (v3 ++ ([((v0)[Int.toNat v4]?.getD (S_ref13_Part.mk [] [] 0 [])).f_Name] : List (List UInt8)))])]) (by kernel_rfl) (by kernel_rfl) ?_
    refine To.pre (St.rename 27 1003 (by decide) (K' := [(0, .recs (α := S_ref13_Part) (S_ref13_Part.mk [] [] 0 []) E_ref13_Part v0), (3, .row 1003), (4, .val (.int .i64 v4))]) (L' := [(1003, 9, [.rowc false (α := List UInt8) [] E_string (v3 ++ ([((v0)[Int.toNat v4]?.getD (S_ref13_Part.mk [] [] 0 [])).f_Name] : List (List UInt8)))])]) (by kernel_rfl) (by kernel_rfl) (by kernel_rfl)) ?_
    refine To.keep (kk := [0, 3, 4]) (kl := [1003]) (K' := [(0, .recs (α := S_ref13_Part) (S_ref13_Part.mk [] [] 0 []) E_ref13_Part v0), (3, .row 1003), (4, .val (.int .i64 v4))]) (L' := [(1003, 9, [.rowc false (α := List UInt8) [] E_string (v3 ++ ([((v0)[Int.toNat v4]?.getD (S_ref13_Part.mk [] [] 0 [])).f_Name] : List (List UInt8)))])]) (by kernel_rfl) (by kernel_rfl) ?_
    cases h
    exact hQ
  · replace h := if_f hb h
    refine Wp.skip ?_
    refine To.keep (kk := [0, 3, 4]) (kl := [1003]) (K' := [(0, .recs (α := S_ref13_Part) (S_ref13_Part.mk [] [] 0 []) E_ref13_Part v0), (3, .row 1003), (4, .val (.int .i64 v4))]) (L' := [(1003, 9, [.rowc false (α := List UInt8) [] E_string v3])]) (by kernel_rfl) (by kernel_rfl) ?_
    cases h
    exact hQ
def ref13_names_l4 (R_ref13_names : (List (S_ref13_Part)) → Option ((List (List UInt8)))) (n : Nat) (v0 : List (S_ref13_Part)) (v4 : Int) (v5 : List (List UInt8)) : Nat → (List (List UInt8)) → Int → Option ((List (List UInt8)))
  | 0, _, _ => none
  | k + 1, v3, v6 => if (decide (v6 < (List.length v5 : Int))) = true then (if (decide (0 ≤ v6 ∧ v6 < (List.length v5 : Int))) = true then (if (decide ((List.length v3 + List.length ([((v5)[Int.toNat v6]?.getD [])] : List (List UInt8))) * (16 + 1) ≤ limit)) = true then (ref13_names_l4 R_ref13_names n v0 v4 v5 k (v3 ++ ([((v5)[Int.toNat v6]?.getD [])] : List (List UInt8))) (IntKind.wrap .i64 (v6 + 1))) else none) else none)
  else some v3
theorem ok_ref13_names_l4 (R_ref13_names : (List (S_ref13_Part)) → Option ((List (List UInt8)))) (hR_ref13_names : ∀ (a0 : List (S_ref13_Part)) (r : (List (List UInt8))), R_ref13_names a0 = some r → CallsX Tryd.prog 24 [.recs (α := S_ref13_Part) (S_ref13_Part.mk [] [] 0 []) E_ref13_Part a0] (.recs (α := List UInt8) [] E_string r)) (n : Nat) (v0 : List (S_ref13_Part)) (v4 : Int) (v5 : List (List UInt8)) {F0 : Fz} {w0 : Pt Tryd.prog} {Q : Exit → Act → World → Prop} (k : Nat) : ∀ (v3 : List (List UInt8)) (v6 : Int) (o : (List (List UInt8))), ref13_names_l4 R_ref13_names n v0 v4 v5 k v3 v6 = some o → To 48 F0 w0 [(0, .recs (α := S_ref13_Part) (S_ref13_Part.mk [] [] 0 []) E_ref13_Part v0), (3, .row 1003), (4, .val (.int .i64 v4))] [(1003, 9, [.rowc false (α := List UInt8) [] E_string o])] (.exit 2) Q → WL Tryd.prog 48 F0 w0 [(0, .recs (α := S_ref13_Part) (S_ref13_Part.mk [] [] 0 []) E_ref13_Part v0), (3, .row 1003), (4, .val (.int .i64 v4)), (5, .recs (α := List UInt8) [] E_string v5), (6, .val (.int .i64 v6))] [(1003, 9, [.rowc false (α := List UInt8) [] E_string v3])] (cI (cI (cB (cB (cB (cI (cA (cB (cI (cI (cB (cA (cB (cB (cF Tryd.f24))))))))))))))) Q := by
  induction k with
  | zero => intro v3 v6 o h; cases h
  | succ k ih =>
    intro v3 v6 o h hQ
    rw [ref13_names_l4] at h
    refine WL.round ?_
    refine Wp.seq ?_
    refine Wp.seq ?_
    refine Wp.region hΓ [] [] [] [0, 3, 4, 5, 6, 37] [1003] (K' := [(0, .recs (α := S_ref13_Part) (S_ref13_Part.mk [] [] 0 []) E_ref13_Part v0), (3, .row 1003), (4, .val (.int .i64 v4)), (5, .recs (α := List UInt8) [] E_string v5), (6, .val (.int .i64 v6)), (37, .val (.bool (decide (v6 < (List.length v5 : Int)))))]) (L' := [(1003, 9, [.rowc false (α := List UInt8) [] E_string v3])]) (ob := []) (by kernel_rfl) AllP.nil ?_
    refine To.thenN ?_
    refine Wp.cond (b := (decide (v6 < (List.length v5 : Int)))) (by kernel_rfl) (fun hb => ?_) (fun hb => ?_)
    · replace h := if_t hb h
      refine Wp.skip ?_
      refine To.thenN ?_
      refine Wp.seq ?_
      refine Wp.block ?_
      obtain ⟨hc3, h⟩ := chk_of h
      obtain ⟨hc4, h⟩ := chk_of h
      refine Wp.region hΓ [] [(5, .recs (α := List UInt8) [] E_string ([((v5)[Int.toNat v6]?.getD [])])), (6, .recs (α := List UInt8) [] E_string (v3 ++ ([((v5)[Int.toNat v6]?.getD [])] : List (List UInt8))))] [] [0, 3, 4, 5, 6] [46] (K' := [(0, .recs (α := S_ref13_Part) (S_ref13_Part.mk [] [] 0 []) E_ref13_Part v0), (3, .row 46), (4, .val (.int .i64 v4)), (5, .recs (α := List UInt8) [] E_string v5), (6, .val (.int .i64 v6))]) (L' := [(46, 9, [.rowc false (α := List UInt8) [] E_string (v3 ++ ([((v5)[Int.toNat v6]?.getD [])] : List (List UInt8)))])]) (ob := [(decide (0 ≤ v6 ∧ v6 < (List.length v5 : Int))) = true, (MkOb 1 [.str ((v5)[Int.toNat v6]?.getD [])] 1 (.recs (α := List UInt8) [] E_string ([((v5)[Int.toNat v6]?.getD [])])) ∧ GoodR (.recs (α := List UInt8) [] E_string ([((v5)[Int.toNat v6]?.getD [])]))), (decide ((List.length v3 + List.length ([((v5)[Int.toNat v6]?.getD [])] : List (List UInt8))) * (16 + 1) ≤ limit)) = true, (AppOb [] E_string v3 (List.flatMap E_string ([((v5)[Int.toNat v6]?.getD [])] : List (List UInt8))) (List.length ([((v5)[Int.toNat v6]?.getD [])] : List (List UInt8))) (.recs (α := List UInt8) [] E_string (v3 ++ ([((v5)[Int.toNat v6]?.getD [])] : List (List UInt8)))) ∧ GoodR (.recs (α := List UInt8) [] E_string (v3 ++ ([((v5)[Int.toNat v6]?.getD [])] : List (List UInt8)))))]) (by kernel_rfl) (AllP.cons hc3 (AllP.cons (mkOb (by kernel_rfl) rfl (by kernel_rfl) (good_E_string _)) (AllP.cons hc4 (AllP.cons (appOb rfl rfl (good_E_string _)) AllP.nil)))) ?_
      refine To.blockN ?_
      refine To.thenN ?_
      refine Wp.region hΓ [] [] [] [0, 3, 4, 5, 6] [46] (K' := [(0, .recs (α := S_ref13_Part) (S_ref13_Part.mk [] [] 0 []) E_ref13_Part v0), (3, .row 46), (4, .val (.int .i64 v4)), (5, .recs (α := List UInt8) [] E_string v5), (6, .val (.int .i64 (IntKind.wrap .i64 (v6 + 1))))]) (L' := [(46, 9, [.rowc false (α := List UInt8) [] E_string (v3 ++ ([((v5)[Int.toNat v6]?.getD [])] : List (List UInt8)))])]) (ob := []) (by kernel_rfl) AllP.nil ?_
      refine To.keep (kk := [0, 3, 4, 5, 6]) (kl := [46]) (K' := [(0, .recs (α := S_ref13_Part) (S_ref13_Part.mk [] [] 0 []) E_ref13_Part v0), (3, .row 46), (4, .val (.int .i64 v4)), (5, .recs (α := List UInt8) [] E_string v5), (6, .val (.int .i64 (IntKind.wrap .i64 (v6 + 1))))]) (L' := [(46, 9, [.rowc false (α := List UInt8) [] E_string (v3 ++ ([((v5)[Int.toNat v6]?.getD [])] : List (List UInt8)))])]) (by kernel_rfl) (by kernel_rfl) ?_
      refine To.pre (St.rename 46 1003 (by decide) (K' := [(0, .recs (α := S_ref13_Part) (S_ref13_Part.mk [] [] 0 []) E_ref13_Part v0), (3, .row 1003), (4, .val (.int .i64 v4)), (5, .recs (α := List UInt8) [] E_string v5), (6, .val (.int .i64 (IntKind.wrap .i64 (v6 + 1))))]) (L' := [(1003, 9, [.rowc false (α := List UInt8) [] E_string (v3 ++ ([((v5)[Int.toNat v6]?.getD [])] : List (List UInt8)))])]) (by kernel_rfl) (by kernel_rfl) (by kernel_rfl)) ?_
      refine To.keep (kk := [0, 3, 4, 5, 6]) (kl := [1003]) (K' := [(0, .recs (α := S_ref13_Part) (S_ref13_Part.mk [] [] 0 []) E_ref13_Part v0), (3, .row 1003), (4, .val (.int .i64 v4)), (5, .recs (α := List UInt8) [] E_string v5), (6, .val (.int .i64 (IntKind.wrap .i64 (v6 + 1))))]) (L' := [(1003, 9, [.rowc false (α := List UInt8) [] E_string (v3 ++ ([((v5)[Int.toNat v6]?.getD [])] : List (List UInt8)))])]) (by kernel_rfl) (by kernel_rfl) ?_
      refine To.again ?_
      exact ih (v3 ++ ([((v5)[Int.toNat v6]?.getD [])] : List (List UInt8))) (IntKind.wrap .i64 (v6 + 1)) _ h hQ
    · replace h := if_f hb h
      refine Wp.exit ?_
      refine To.thenX ?_
      refine To.thenX ?_
      refine To.keep (kk := [0, 3, 4]) (kl := [1003]) (K' := [(0, .recs (α := S_ref13_Part) (S_ref13_Part.mk [] [] 0 []) E_ref13_Part v0), (3, .row 1003), (4, .val (.int .i64 v4))]) (L' := [(1003, 9, [.rowc false (α := List UInt8) [] E_string v3])]) (by kernel_rfl) (by kernel_rfl) ?_
      cases h
      exact hQ
def ref13_names_j2 (R_ref13_names : (List (S_ref13_Part)) → Option ((List (List UInt8)))) (n : Nat) (v0 : List (S_ref13_Part)) (v3 : List (List UInt8)) (v4 : Int) : Option ((List (List UInt8))) :=
  if (decide (0 ≤ v4 ∧ v4 < (List.length v0 : Int))) = true then ((ref13_names_j3 R_ref13_names n v0 v3 v4 ((((v0)[Int.toNat v4]?.getD (S_ref13_Part.mk [] [] 0 [])).f_Op) != 0)).bind fun o1 =>
  if (decide (0 ≤ v4 ∧ v4 < (List.length v0 : Int))) = true then ((R_ref13_names (((v0)[Int.toNat v4]?.getD (S_ref13_Part.mk [] [] 0 [])).f_Sub)).bind fun r2 =>
  (ref13_names_l4 R_ref13_names n v0 v4 r2 n o1 0).bind fun o3 =>
  some o3) else none) else none
theorem ok_ref13_names_j2 (R_ref13_names : (List (S_ref13_Part)) → Option ((List (List UInt8)))) (hR_ref13_names : ∀ (a0 : List (S_ref13_Part)) (r : (List (List UInt8))), R_ref13_names a0 = some r → CallsX Tryd.prog 24 [.recs (α := S_ref13_Part) (S_ref13_Part.mk [] [] 0 []) E_ref13_Part a0] (.recs (α := List UInt8) [] E_string r)) (n : Nat) (v0 : List (S_ref13_Part)) (v3 : List (List UInt8)) (v4 : Int) (o : (List (List UInt8))) (h : ref13_names_j2 R_ref13_names n v0 v3 v4 = some o) {F0 : Fz} {w0 : Pt Tryd.prog} {Q : Exit → Act → World → Prop} (hQ : To 48 F0 w0 [(0, .recs (α := S_ref13_Part) (S_ref13_Part.mk [] [] 0 []) E_ref13_Part v0), (3, .row 1003), (4, .val (.int .i64 v4))] [(1003, 9, [.rowc false (α := List UInt8) [] E_string o])] .normal Q) : Wp Tryd.prog 48 F0 w0 [(0, .recs (α := S_ref13_Part) (S_ref13_Part.mk [] [] 0 []) E_ref13_Part v0), (3, .row 1003), (4, .val (.int .i64 v4))] [(1003, 9, [.rowc false (α := List UInt8) [] E_string v3])] (cA (cB (cI (cI (cB (cA (cB (cB (cF Tryd.f24))))))))) Q := by
  unfold ref13_names_j2 at h
  refine Wp.block ?_
  refine Wp.seq ?_
  refine Wp.seq ?_
  obtain ⟨hc5, h⟩ := chk_of h
  refine Wp.region hΓ [] [] [] [0, 3, 4, 19] [1003] (K' := [(0, .recs (α := S_ref13_Part) (S_ref13_Part.mk [] [] 0 []) E_ref13_Part v0), (3, .row 1003), (4, .val (.int .i64 v4)), (19, .val (.bool ((((v0)[Int.toNat v4]?.getD (S_ref13_Part.mk [] [] 0 [])).f_Op) != 0)))]) (L' := [(1003, 9, [.rowc false (α := List UInt8) [] E_string v3])]) (ob := [(decide (0 ≤ v4 ∧ v4 < (List.length v0 : Int))) = true]) (by kernel_rfl) (AllP.cons hc5 AllP.nil) ?_
  refine To.thenN ?_
  obtain ⟨o1, ho1, h⟩ := bind_of h
  refine Wp.keep (kk := [0, 3, 4, 19]) (kl := [1003]) (K' := [(0, .recs (α := S_ref13_Part) (S_ref13_Part.mk [] [] 0 []) E_ref13_Part v0), (3, .row 1003), (4, .val (.int .i64 v4)), (19, .val (.bool ((((v0)[Int.toNat v4]?.getD (S_ref13_Part.mk [] [] 0 [])).f_Op) != 0)))]) (L' := [(1003, 9, [.rowc false (α := List UInt8) [] E_string v3])]) (by kernel_rfl) (by kernel_rfl) ?_
  refine ok_ref13_names_j3 R_ref13_names hR_ref13_names n v0 v3 v4 ((((v0)[Int.toNat v4]?.getD (S_ref13_Part.mk [] [] 0 [])).f_Op) != 0) o1 ho1 ?_
  refine To.thenN ?_
  refine Wp.seq ?_
  obtain ⟨hc4, h⟩ := chk_of h
  obtain ⟨r2, hr2, h⟩ := bind_of h
  refine Wp.region hΓ [] [(5, .recs (α := List UInt8) [] E_string r2)] [] [0, 3, 4, 5] [1003] (K' := [(0, .recs (α := S_ref13_Part) (S_ref13_Part.mk [] [] 0 []) E_ref13_Part v0), (3, .row 1003), (4, .val (.int .i64 v4)), (5, .recs (α := List UInt8) [] E_string r2)]) (L' := [(1003, 9, [.rowc false (α := List UInt8) [] E_string o1])]) (ob := [(decide (0 ≤ v4 ∧ v4 < (List.length v0 : Int))) = true, (true = true → CX Tryd.prog 24 [.recs (α := S_ref13_Part) (S_ref13_Part.mk [] [] 0 []) E_ref13_Part (((v0)[Int.toNat v4]?.getD (S_ref13_Part.mk [] [] 0 [])).f_Sub)] (.recs (α := List UInt8) [] E_string r2))]) (by kernel_rfl) (AllP.cons hc4 (AllP.cons (fun _ => cx (hR_ref13_names (((v0)[Int.toNat v4]?.getD (S_ref13_Part.mk [] [] 0 [])).f_Sub) _ hr2)) AllP.nil)) ?_
  refine To.thenN ?_
  refine Wp.seq ?_
  refine Wp.region hΓ [] [] [] [0, 3, 4, 5, 6] [1003] (K' := [(0, .recs (α := S_ref13_Part) (S_ref13_Part.mk [] [] 0 []) E_ref13_Part v0), (3, .row 1003), (4, .val (.int .i64 v4)), (5, .recs (α := List UInt8) [] E_string r2), (6, .val (.int .i64 0))]) (L' := [(1003, 9, [.rowc false (α := List UInt8) [] E_string o1])]) (ob := []) (by kernel_rfl) AllP.nil ?_
  refine To.thenN ?_
  refine Wp.block ?_
  obtain ⟨o3, ho3, h⟩ := bind_of h
  refine Wp.keep (kk := [0, 3, 4, 5, 6]) (kl := [1003]) (K' := [(0, .recs (α := S_ref13_Part) (S_ref13_Part.mk [] [] 0 []) E_ref13_Part v0), (3, .row 1003), (4, .val (.int .i64 v4)), (5, .recs (α := List UInt8) [] E_string r2), (6, .val (.int .i64 0))]) (L' := [(1003, 9, [.rowc false (α := List UInt8) [] E_string o1])]) (by kernel_rfl) (by kernel_rfl) ?_
  refine Wp.loopL ?_
  refine ok_ref13_names_l4 R_ref13_names hR_ref13_names n v0 v4 r2 n o1 0 o3 ho3 ?_
  refine To.blockX ?_
  refine To.blockN ?_
  refine To.keep (kk := [0, 3, 4]) (kl := [1003]) (K' := [(0, .recs (α := S_ref13_Part) (S_ref13_Part.mk [] [] 0 []) E_ref13_Part v0), (3, .row 1003), (4, .val (.int .i64 v4))]) (L' := [(1003, 9, [.rowc false (α := List UInt8) [] E_string o3])]) (by kernel_rfl) (by kernel_rfl) ?_
  cases h
  exact hQ
def ref13_names_l1 (R_ref13_names : (List (S_ref13_Part)) → Option ((List (List UInt8)))) (n : Nat) (v0 : List (S_ref13_Part)) : Nat → (List (List UInt8)) → Int → Option ((List (List UInt8)))
  | 0, _, _ => none
  | k + 1, v3, v4 => if (decide (v4 < (List.length v0 : Int))) = true then ((ref13_names_j2 R_ref13_names n v0 v3 v4).bind fun o1 =>
  ref13_names_l1 R_ref13_names n v0 k o1 (IntKind.wrap .i64 (v4 + 1)))
  else some v3
theorem ok_ref13_names_l1 (R_ref13_names : (List (S_ref13_Part)) → Option ((List (List UInt8)))) (hR_ref13_names : ∀ (a0 : List (S_ref13_Part)) (r : (List (List UInt8))), R_ref13_names a0 = some r → CallsX Tryd.prog 24 [.recs (α := S_ref13_Part) (S_ref13_Part.mk [] [] 0 []) E_ref13_Part a0] (.recs (α := List UInt8) [] E_string r)) (n : Nat) (v0 : List (S_ref13_Part)) {F0 : Fz} {w0 : Pt Tryd.prog} {Q : Exit → Act → World → Prop} (k : Nat) : ∀ (v3 : List (List UInt8)) (v4 : Int) (o : (List (List UInt8))), ref13_names_l1 R_ref13_names n v0 k v3 v4 = some o → To 48 F0 w0 [(3, .row 1003)] [(1003, 9, [.rowc false (α := List UInt8) [] E_string o])] (.exit 0) Q → WL Tryd.prog 48 F0 w0 [(0, .recs (α := S_ref13_Part) (S_ref13_Part.mk [] [] 0 []) E_ref13_Part v0), (3, .row 1003), (4, .val (.int .i64 v4))] [(1003, 9, [.rowc false (α := List UInt8) [] E_string v3])] (cI (cI (cB (cA (cB (cB (cF Tryd.f24))))))) Q := by
  induction k with
  | zero => intro v3 v4 o h; cases h
  | succ k ih =>
    intro v3 v4 o h hQ
    rw [ref13_names_l1] at h
    refine WL.round ?_
    refine Wp.seq ?_
    refine Wp.seq ?_
    refine Wp.region hΓ [] [] [] [0, 3, 4, 11] [1003] (K' := [(0, .recs (α := S_ref13_Part) (S_ref13_Part.mk [] [] 0 []) E_ref13_Part v0), (3, .row 1003), (4, .val (.int .i64 v4)), (11, .val (.bool (decide (v4 < (List.length v0 : Int)))))]) (L' := [(1003, 9, [.rowc false (α := List UInt8) [] E_string v3])]) (ob := []) (by kernel_rfl) AllP.nil ?_
    refine To.thenN ?_
    refine Wp.cond (b := (decide (v4 < (List.length v0 : Int)))) (by kernel_rfl) (fun hb => ?_) (fun hb => ?_)
    · replace h := if_t hb h
      refine Wp.skip ?_
      refine To.thenN ?_
      refine Wp.seq ?_
      obtain ⟨o1, ho1, h⟩ := bind_of h
      refine Wp.keep (kk := [0, 3, 4]) (kl := [1003]) (K' := [(0, .recs (α := S_ref13_Part) (S_ref13_Part.mk [] [] 0 []) E_ref13_Part v0), (3, .row 1003), (4, .val (.int .i64 v4))]) (L' := [(1003, 9, [.rowc false (α := List UInt8) [] E_string v3])]) (by kernel_rfl) (by kernel_rfl) ?_
      refine ok_ref13_names_j2 R_ref13_names hR_ref13_names n v0 v3 v4 o1 ho1 ?_
      refine To.thenN ?_
      refine Wp.region hΓ [] [] [] [0, 3, 4] [1003] (K' := [(0, .recs (α := S_ref13_Part) (S_ref13_Part.mk [] [] 0 []) E_ref13_Part v0), (3, .row 1003), (4, .val (.int .i64 (IntKind.wrap .i64 (v4 + 1))))]) (L' := [(1003, 9, [.rowc false (α := List UInt8) [] E_string o1])]) (ob := []) (by kernel_rfl) AllP.nil ?_
      refine To.keep (kk := [0, 3, 4]) (kl := [1003]) (K' := [(0, .recs (α := S_ref13_Part) (S_ref13_Part.mk [] [] 0 []) E_ref13_Part v0), (3, .row 1003), (4, .val (.int .i64 (IntKind.wrap .i64 (v4 + 1))))]) (L' := [(1003, 9, [.rowc false (α := List UInt8) [] E_string o1])]) (by kernel_rfl) (by kernel_rfl) ?_
      refine To.again ?_
      exact ih o1 (IntKind.wrap .i64 (v4 + 1)) _ h hQ
    · replace h := if_f hb h
      refine Wp.exit ?_
      refine To.thenX ?_
      refine To.thenX ?_
      refine To.keep (kk := [3]) (kl := [1003]) (K' := [(3, .row 1003)]) (L' := [(1003, 9, [.rowc false (α := List UInt8) [] E_string v3])]) (by kernel_rfl) (by kernel_rfl) ?_
      cases h
      exact hQ
def ref13_names_b (R_ref13_names : (List (S_ref13_Part)) → Option ((List (List UInt8)))) (n : Nat) (a0 : List (S_ref13_Part)) : Option ((List (List UInt8))) :=
  (ref13_names_l1 R_ref13_names n a0 n ([] : List (List UInt8)) 0).bind fun o1 =>
  some o1
theorem ok_ref13_names_b (R_ref13_names : (List (S_ref13_Part)) → Option ((List (List UInt8)))) (hR_ref13_names : ∀ (a0 : List (S_ref13_Part)) (r : (List (List UInt8))), R_ref13_names a0 = some r → CallsX Tryd.prog 24 [.recs (α := S_ref13_Part) (S_ref13_Part.mk [] [] 0 []) E_ref13_Part a0] (.recs (α := List UInt8) [] E_string r)) (n : Nat) (a0 : List (S_ref13_Part)) (r : (List (List UInt8))) (h : ref13_names_b R_ref13_names n a0 = some r) : CallsX Tryd.prog 24 [.recs (α := S_ref13_Part) (S_ref13_Part.mk [] [] 0 []) E_ref13_Part a0] (.recs (α := List UInt8) [] E_string r) := by
  unfold ref13_names_b at h
  refine callsX_of (fn := Tryd.f24) (by kernel_rfl) rfl (by kernel_rfl) (Nat.le_of_ble_eq_true (by kernel_rfl)) fun F0 w0 _ => ?_
  refine Wp.keep (kk := [0]) (kl := []) (K' := [(0, .recs (α := S_ref13_Part) (S_ref13_Part.mk [] [] 0 []) E_ref13_Part a0)]) (L' := []) (by kernel_rfl) (by kernel_rfl) ?_
  refine Wp.seq ?_
  refine Wp.region hΓ [] [] [] [0] [] (K' := [(0, .recs (α := S_ref13_Part) (S_ref13_Part.mk [] [] 0 []) E_ref13_Part a0)]) (L' := []) (ob := []) (by kernel_rfl) AllP.nil ?_
  refine To.thenN ?_
  refine Wp.seq ?_
  refine Wp.region hΓ [] [(0, .recs (α := List UInt8) [] E_string [])] [] [0, 3] [7] (K' := [(0, .recs (α := S_ref13_Part) (S_ref13_Part.mk [] [] 0 []) E_ref13_Part a0), (3, .row 7)]) (L' := [(7, 9, [.rowc false (α := List UInt8) [] E_string []])]) (ob := [(MkOb 1 [] 0 (.recs (α := List UInt8) [] E_string []) ∧ GoodR (.recs (α := List UInt8) [] E_string []))]) (by kernel_rfl) (AllP.cons (mkOb (by kernel_rfl) rfl (by kernel_rfl) (good_E_string _)) AllP.nil) ?_
  refine To.thenN ?_
  refine Wp.seq ?_
  refine Wp.seq ?_
  refine Wp.region hΓ [] [] [] [0, 3, 4] [7] (K' := [(0, .recs (α := S_ref13_Part) (S_ref13_Part.mk [] [] 0 []) E_ref13_Part a0), (3, .row 7), (4, .val (.int .i64 0))]) (L' := [(7, 9, [.rowc false (α := List UInt8) [] E_string []])]) (ob := []) (by kernel_rfl) AllP.nil ?_
  refine To.thenN ?_
  refine Wp.block ?_
  obtain ⟨o1, ho1, h⟩ := bind_of h
  refine Wp.keep (kk := [0, 3, 4]) (kl := [7]) (K' := [(0, .recs (α := S_ref13_Part) (S_ref13_Part.mk [] [] 0 []) E_ref13_Part a0), (3, .row 7), (4, .val (.int .i64 0))]) (L' := [(7, 9, [.rowc false (α := List UInt8) [] E_string []])]) (by kernel_rfl) (by kernel_rfl) ?_
  refine Wp.pre (St.rename 7 1003 (by decide) (K' := [(0, .recs (α := S_ref13_Part) (S_ref13_Part.mk [] [] 0 []) E_ref13_Part a0), (3, .row 1003), (4, .val (.int .i64 0))]) (L' := [(1003, 9, [.rowc false (α := List UInt8) [] E_string []])]) (by kernel_rfl) (by kernel_rfl) (by kernel_rfl)) ?_
  refine Wp.keep (kk := [0, 3, 4]) (kl := [1003]) (K' := [(0, .recs (α := S_ref13_Part) (S_ref13_Part.mk [] [] 0 []) E_ref13_Part a0), (3, .row 1003), (4, .val (.int .i64 0))]) (L' := [(1003, 9, [.rowc false (α := List UInt8) [] E_string []])]) (by kernel_rfl) (by kernel_rfl) ?_
  refine Wp.loopL ?_
  refine ok_ref13_names_l1 R_ref13_names hR_ref13_names n a0 n ([] : List (List UInt8)) 0 o1 ho1 ?_
  refine To.blockX ?_
  refine To.thenN ?_
  refine Wp.seq ?_
  refine Wp.region hΓ [] [] [] [2] [1003] (K' := [(2, .row 1003)]) (L' := [(1003, 9, [.rowc false (α := List UInt8) [] E_string o1])]) (ob := []) (by kernel_rfl) AllP.nil ?_
  refine To.thenN ?_
  refine Wp.ret ?_
  refine To.keep (kk := [2]) (kl := [1003]) (K' := [(2, .row 1003)]) (L' := [(1003, 9, [.rowc false (α := List UInt8) [] E_string o1])]) (by kernel_rfl) (by kernel_rfl) ?_
  refine To.pre (St.settle (ks := [1003]) (kk := [2]) (kl := [1003]) (K' := [(2, .row 1003)]) (L' := [(1003, 9, [.rowc true (α := List UInt8) [] E_string o1])]) (by kernel_rfl)) ?_
  refine To.pre (St.sealK [2] (K' := [(2, .recs (α := List UInt8) [] E_string o1)]) (by kernel_rfl)) ?_
  refine To.keep (kk := [2]) (kl := []) (K' := [(2, .recs (α := List UInt8) [] E_string o1)]) (L' := []) (by kernel_rfl) (by kernel_rfl) ?_
  cases h
  exact To.done hΓ (by kernel_rfl)
def ref13_names : Nat → (List (S_ref13_Part)) → Option ((List (List UInt8)))
  | 0 => fun _ => none
  | n + 1 => ref13_names_b (ref13_names n) n
theorem ok_ref13_names (n : Nat) : ∀ (a0 : List (S_ref13_Part)) (r : (List (List UInt8))), ref13_names n a0 = some r → CallsX Tryd.prog 24 [.recs (α := S_ref13_Part) (S_ref13_Part.mk [] [] 0 []) E_ref13_Part a0] (.recs (α := List UInt8) [] E_string r) := by
  induction n with
  | zero => intro a0 r h; cases h
  | succ n ih => exact fun a0 r h => ok_ref13_names_b (ref13_names n) ih n a0 r h
def ref02_Sorted_j3 (n : Nat) (v0 : List (List UInt8)) (v3 : List (List UInt8)) (v4 : Int) (v5 : Int) : Option (Int) :=
  if ((!(((List.length v3 : Int) == 0) == false) || decide (0 ≤ v5 ∧ v5 < (List.length v0 : Int)))) = true then (if ((!(((List.length v3 : Int) == 0) == false) || decide (0 ≤ (IntKind.wrap .i64 ((List.length v3 : Int) - 1)) ∧ (IntKind.wrap .i64 ((List.length v3 : Int) - 1)) < (List.length v3 : Int)))) = true then (if ((!(((decide (v4 < 0)) == false) && ((bif ((List.length v3 : Int) == 0) then true else (!(Op.bytesLess ((v0)[Int.toNat v5]?.getD []) ((v3)[Int.toNat (IntKind.wrap .i64 ((List.length v3 : Int) - 1))]?.getD []) || ((v0)[Int.toNat v5]?.getD []) == ((v3)[Int.toNat (IntKind.wrap .i64 ((List.length v3 : Int) - 1))]?.getD [])))) == true)) || decide (0 ≤ v5 ∧ v5 < (List.length v0 : Int)))) = true then (if ((!(((decide (v4 < 0)) == false) && ((bif ((List.length v3 : Int) == 0) then true else (!(Op.bytesLess ((v0)[Int.toNat v5]?.getD []) ((v3)[Int.toNat (IntKind.wrap .i64 ((List.length v3 : Int) - 1))]?.getD []) || ((v0)[Int.toNat v5]?.getD []) == ((v3)[Int.toNat (IntKind.wrap .i64 ((List.length v3 : Int) - 1))]?.getD [])))) == true)) || decide (0 ≤ v4 ∧ v4 < (List.length v0 : Int)))) = true then (lett ((bif (bif ((List.length v3 : Int) == 0) then true else (!(Op.bytesLess ((v0)[Int.toNat v5]?.getD []) ((v3)[Int.toNat (IntKind.wrap .i64 ((List.length v3 : Int) - 1))]?.getD []) || ((v0)[Int.toNat v5]?.getD []) == ((v3)[Int.toNat (IntKind.wrap .i64 ((List.length v3 : Int) - 1))]?.getD [])))) then (bif (decide (v4 < 0)) then true else (Op.bytesLess ((v0)[Int.toNat v5]?.getD []) ((v0)[Int.toNat v4]?.getD []))) else false) : Bool) fun x1 =>
  if x1 = true then some v5
  else some v4) else none) else none) else none) else none
theorem ok_ref02_Sorted_j3 (n : Nat) (v0 : List (List UInt8)) (v3 : List (List UInt8)) (v4 : Int) (v5 : Int) (o : Int) (h : ref02_Sorted_j3 n v0 v3 v4 v5 = some o) {F0 : Fz} {w0 : Pt Tryd.prog} {Q : Exit → Act → World → Prop} (hQ : To 55 F0 w0 [(0, .recs (α := List UInt8) [] E_string v0), (3, .row 1003), (4, .val (.int .i64 o)), (5, .val (.int .i64 v5))] [(1003, 9, [.rowc false (α := List UInt8) [] E_string v3])] .normal Q) : Wp Tryd.prog 55 F0 w0 [(0, .recs (α := List UInt8) [] E_string v0), (3, .row 1003), (4, .val (.int .i64 v4)), (5, .val (.int .i64 v5))] [(1003, 9, [.rowc false (α := List UInt8) [] E_string v3])] (cA (cB (cI (cI (cB (cA (cB (cI (cI (cI (cB (cB (cF Tryd.f23))))))))))))) Q := by
  unfold ref02_Sorted_j3 at h
  refine Wp.block ?_
  refine Wp.seq ?_
  obtain ⟨hc2, h⟩ := chk_of h
  obtain ⟨hc3, h⟩ := chk_of h
  obtain ⟨hc4, h⟩ := chk_of h
  obtain ⟨hc5, h⟩ := chk_of h
  obtain ⟨x1, hx1, h⟩ := lett_of h
  refine Wp.regionD hm hΓ [] [0, 3, 4, 5, 43] [1003] (K' := [(0, .recs (α := List UInt8) [] E_string v0), (3, .row 1003), (4, .val (.int .i64 v4)), (5, .val (.int .i64 v5)), (43, .val (.bool (bif (bif ((List.length v3 : Int) == 0) then true else (!(Op.bytesLess ((v0)[Int.toNat v5]?.getD []) ((v3)[Int.toNat (IntKind.wrap .i64 ((List.length v3 : Int) - 1))]?.getD []) || ((v0)[Int.toNat v5]?.getD []) == ((v3)[Int.toNat (IntKind.wrap .i64 ((List.length v3 : Int) - 1))]?.getD [])))) then (bif (decide (v4 < 0)) then true else (Op.bytesLess ((v0)[Int.toNat v5]?.getD []) ((v0)[Int.toNat v4]?.getD []))) else false)))]) (L' := [(1003, 9, [.rowc false (α := List UInt8) [] E_string v3])]) (ob := [(!(((List.length v3 : Int) == 0) == false) || decide (0 ≤ v5 ∧ v5 < (List.length v0 : Int))) = true, (!(((List.length v3 : Int) == 0) == false) || decide (0 ≤ (IntKind.wrap .i64 ((List.length v3 : Int) - 1)) ∧ (IntKind.wrap .i64 ((List.length v3 : Int) - 1)) < (List.length v3 : Int))) = true, (!(((List.length v3 : Int) == 0) == false) || decide (0 ≤ (IntKind.wrap .i64 ((List.length v3 : Int) - 1)) ∧ (IntKind.wrap .i64 ((List.length v3 : Int) - 1)) < (List.length v3 : Int))) = true, (!(((decide (v4 < 0)) == false) && ((bif ((List.length v3 : Int) == 0) then true else (!(Op.bytesLess ((v0)[Int.toNat v5]?.getD []) ((v3)[Int.toNat (IntKind.wrap .i64 ((List.length v3 : Int) - 1))]?.getD []) || ((v0)[Int.toNat v5]?.getD []) == ((v3)[Int.toNat (IntKind.wrap .i64 ((List.length v3 : Int) - 1))]?.getD [])))) == true)) || decide (0 ≤ v5 ∧ v5 < (List.length v0 : Int))) = true, (!(((decide (v4 < 0)) == false) && ((bif ((List.length v3 : Int) == 0) then true else (!(Op.bytesLess ((v0)[Int.toNat v5]?.getD []) ((v3)[Int.toNat (IntKind.wrap .i64 ((List.length v3 : Int) - 1))]?.getD []) || ((v0)[Int.toNat v5]?.getD []) == ((v3)[Int.toNat (IntKind.wrap .i64 ((List.length v3 : Int) - 1))]?.getD [])))) == true)) || decide (0 ≤ v4 ∧ v4 < (List.length v0 : Int))) = true]) (by kernel_rfl) (AllP.cons hc2 (AllP.cons hc3 (AllP.cons hc3 (AllP.cons hc4 (AllP.cons hc5 AllP.nil))))) ?_
  refine To.eq (K' := [(0, .recs (α := List UInt8) [] E_string v0), (3, .row 1003), (4, .val (.int .i64 v4)), (5, .val (.int .i64 v5)), (43, .val (.bool x1))]) (L' := [(1003, 9, [.rowc false (α := List UInt8) [] E_string v3])]) (by cases hx1; rfl) (by cases hx1; rfl) ?_
  refine To.thenN ?_
  refine Wp.cond (b := x1) (by kernel_rfl) (fun hb => ?_) (fun hb => ?_)
  · replace h := if_t hb h
    refine Wp.region hΓ [] [] [] [0, 3, 4, 5] [1003] (K' := [(0, .recs (α := List UInt8) [] E_string v0), (3, .row 1003), (4, .val (.int .i64 v5)), (5, .val (.int .i64 v5))]) (L' := [(1003, 9, [.rowc false (α := List UInt8) [] E_string v3])]) (ob := []) (by kernel_rfl) AllP.nil ?_
    refine To.blockN ?_
    refine To.keep (kk := [0, 3, 4, 5]) (kl := [1003]) (K' := [(0, .recs (α := List UInt8) [] E_string v0), (3, .row 1003), (4, .val (.int .i64 v5)), (5, .val (.int .i64 v5))]) (L' := [(1003, 9, [.rowc false (α := List UInt8) [] E_string v3])]) (by kernel_rfl) (by kernel_rfl) ?_
    cases h
    exact hQ
  · replace h := if_f hb h
    refine Wp.skip ?_
    refine To.blockN ?_
    refine To.keep (kk := [0, 3, 4, 5]) (kl := [1003]) (K' := [(0, .recs (α := List UInt8) [] E_string v0), (3, .row 1003), (4, .val (.int .i64 v4)), (5, .val (.int .i64 v5))]) (L' := [(1003, 9, [.rowc false (α := List UInt8) [] E_string v3])]) (by kernel_rfl) (by kernel_rfl) ?_
    cases h
    exact hQ
def ref02_Sorted_l2 (n : Nat) (v0 : List (List UInt8)) (v3 : List (List UInt8)) : Nat → Int → Int → Option (Int)
  | 0, _, _ => none
  | k + 1, v4, v5 => if (decide (v5 < (List.length v0 : Int))) = true then ((ref02_Sorted_j3 n v0 v3 v4 v5).bind fun o1 =>
  ref02_Sorted_l2 n v0 v3 k o1 (IntKind.wrap .i64 (v5 + 1)))
  else some v4
theorem ok_ref02_Sorted_l2 (n : Nat) (v0 : List (List UInt8)) (v3 : List (List UInt8)) {F0 : Fz} {w0 : Pt Tryd.prog} {Q : Exit → Act → World → Prop} (k : Nat) : ∀ (v4 : Int) (v5 : Int) (o : Int), ref02_Sorted_l2 n v0 v3 k v4 v5 = some o → To 55 F0 w0 [(0, .recs (α := List UInt8) [] E_string v0), (3, .row 1003), (4, .val (.int .i64 o))] [(1003, 9, [.rowc false (α := List UInt8) [] E_string v3])] (.exit 2) Q → WL Tryd.prog 55 F0 w0 [(0, .recs (α := List UInt8) [] E_string v0), (3, .row 1003), (4, .val (.int .i64 v4)), (5, .val (.int .i64 v5))] [(1003, 9, [.rowc false (α := List UInt8) [] E_string v3])] (cI (cI (cB (cA (cB (cI (cI (cI (cB (cB (cF Tryd.f23))))))))))) Q := by
  induction k with
  | zero => intro v4 v5 o h; cases h
  | succ k ih =>
    intro v4 v5 o h hQ
    rw [ref02_Sorted_l2] at h
    refine WL.round ?_
    refine Wp.seq ?_
    refine Wp.seq ?_
    refine Wp.region hΓ [] [] [] [0, 3, 4, 5, 10] [1003] (K' := [(0, .recs (α := List UInt8) [] E_string v0), (3, .row 1003), (4, .val (.int .i64 v4)), (5, .val (.int .i64 v5)), (10, .val (.bool (decide (v5 < (List.length v0 : Int)))))]) (L' := [(1003, 9, [.rowc false (α := List UInt8) [] E_string v3])]) (ob := []) (by kernel_rfl) AllP.nil ?_
    refine To.thenN ?_
    refine Wp.cond (b := (decide (v5 < (List.length v0 : Int)))) (by kernel_rfl) (fun hb => ?_) (fun hb => ?_)
    · replace h := if_t hb h
      refine Wp.skip ?_
      refine To.thenN ?_
      refine Wp.seq ?_
      obtain ⟨o1, ho1, h⟩ := bind_of h
      refine Wp.keep (kk := [0, 3, 4, 5]) (kl := [1003]) (K' := [(0, .recs (α := List UInt8) [] E_string v0), (3, .row 1003), (4, .val (.int .i64 v4)), (5, .val (.int .i64 v5))]) (L' := [(1003, 9, [.rowc false (α := List UInt8) [] E_string v3])]) (by kernel_rfl) (by kernel_rfl) ?_
      refine ok_ref02_Sorted_j3 n v0 v3 v4 v5 o1 ho1 ?_
      refine To.thenN ?_
      refine Wp.region hΓ [] [] [] [0, 3, 4, 5] [1003] (K' := [(0, .recs (α := List UInt8) [] E_string v0), (3, .row 1003), (4, .val (.int .i64 o1)), (5, .val (.int .i64 (IntKind.wrap .i64 (v5 + 1))))]) (L' := [(1003, 9, [.rowc false (α := List UInt8) [] E_string v3])]) (ob := []) (by kernel_rfl) AllP.nil ?_
      refine To.keep (kk := [0, 3, 4, 5]) (kl := [1003]) (K' := [(0, .recs (α := List UInt8) [] E_string v0), (3, .row 1003), (4, .val (.int .i64 o1)), (5, .val (.int .i64 (IntKind.wrap .i64 (v5 + 1))))]) (L' := [(1003, 9, [.rowc false (α := List UInt8) [] E_string v3])]) (by kernel_rfl) (by kernel_rfl) ?_
      refine To.again ?_
      exact ih o1 (IntKind.wrap .i64 (v5 + 1)) _ h hQ
    · replace h := if_f hb h
      refine Wp.exit ?_
      refine To.thenX ?_
      refine To.thenX ?_
      refine To.keep (kk := [0, 3, 4]) (kl := [1003]) (K' := [(0, .recs (α := List UInt8) [] E_string v0), (3, .row 1003), (4, .val (.int .i64 v4))]) (L' := [(1003, 9, [.rowc false (α := List UInt8) [] E_string v3])]) (by kernel_rfl) (by kernel_rfl) ?_
      cases h
      exact hQ
def ref02_Sorted_l1 (n : Nat) (v0 : List (List UInt8)) : Nat → (List (List UInt8)) → Option ((List (List UInt8)))
  | 0, _ => none
  | k + 1, v3 => (ref02_Sorted_l2 n v0 v3 n (-1) 0).bind fun o1 =>
  if (decide (o1 < 0)) = true then some v3
  else (if (decide (0 ≤ o1 ∧ o1 < (List.length v0 : Int))) = true then (if (decide ((List.length v3 + List.length ([((v0)[Int.toNat o1]?.getD [])] : List (List UInt8))) * (16 + 1) ≤ limit)) = true then (ref02_Sorted_l1 n v0 k (v3 ++ ([((v0)[Int.toNat o1]?.getD [])] : List (List UInt8)))) else none) else none)
theorem ok_ref02_Sorted_l1 (n : Nat) (v0 : List (List UInt8)) {F0 : Fz} {w0 : Pt Tryd.prog} {Q : Exit → Act → World → Prop} (k : Nat) : ∀ (v3 : List (List UInt8)) (o : (List (List UInt8))), ref02_Sorted_l1 n v0 k v3 = some o → To 55 F0 w0 [(2, .row 1002)] [(1002, 9, [.rowc false (α := List UInt8) [] E_string o])] .ret Q → WL Tryd.prog 55 F0 w0 [(0, .recs (α := List UInt8) [] E_string v0), (3, .row 1003)] [(1003, 9, [.rowc false (α := List UInt8) [] E_string v3])] (cI (cI (cB (cB (cF Tryd.f23))))) Q := by
  induction k with
  | zero => intro v3 o h; cases h
  | succ k ih =>
    intro v3 o h hQ
    rw [ref02_Sorted_l1] at h
    refine WL.round ?_
    refine Wp.block ?_
    refine Wp.seq ?_
    refine Wp.region hΓ [] [] [] [0, 3, 4] [1003] (K' := [(0, .recs (α := List UInt8) [] E_string v0), (3, .row 1003), (4, .val (.int .i64 (-1)))]) (L' := [(1003, 9, [.rowc false (α := List UInt8) [] E_string v3])]) (ob := []) (by kernel_rfl) AllP.nil ?_
    refine To.thenN ?_
    refine Wp.seq ?_
    refine Wp.seq ?_
    refine Wp.region hΓ [] [] [] [0, 3, 4, 5] [1003] (K' := [(0, .recs (α := List UInt8) [] E_string v0), (3, .row 1003), (4, .val (.int .i64 (-1))), (5, .val (.int .i64 0))]) (L' := [(1003, 9, [.rowc false (α := List UInt8) [] E_string v3])]) (ob := []) (by kernel_rfl) AllP.nil ?_
    refine To.thenN ?_
    refine Wp.block ?_
    obtain ⟨o1, ho1, h⟩ := bind_of h
    refine Wp.keep (kk := [0, 3, 4, 5]) (kl := [1003]) (K' := [(0, .recs (α := List UInt8) [] E_string v0), (3, .row 1003), (4, .val (.int .i64 (-1))), (5, .val (.int .i64 0))]) (L' := [(1003, 9, [.rowc false (α := List UInt8) [] E_string v3])]) (by kernel_rfl) (by kernel_rfl) ?_
    refine Wp.loopL ?_
    refine ok_ref02_Sorted_l2 n v0 v3 n (-1) 0 o1 ho1 ?_
    refine To.blockX ?_
    refine To.thenN ?_
    refine Wp.seq ?_
    refine Wp.seq ?_
    refine Wp.region hΓ [] [] [] [0, 3, 4, 46] [1003] (K' := [(0, .recs (α := List UInt8) [] E_string v0), (3, .row 1003), (4, .val (.int .i64 o1)), (46, .val (.bool (decide (o1 < 0))))]) (L' := [(1003, 9, [.rowc false (α := List UInt8) [] E_string v3])]) (ob := []) (by kernel_rfl) AllP.nil ?_
    refine To.thenN ?_
    refine Wp.cond (b := (decide (o1 < 0))) (by kernel_rfl) (fun hb => ?_) (fun hb => ?_)
    · replace h := if_t hb h
      refine Wp.seq ?_
      refine Wp.region hΓ [] [] [] [2] [1003] (K' := [(2, .row 1003)]) (L' := [(1003, 9, [.rowc false (α := List UInt8) [] E_string v3])]) (ob := []) (by kernel_rfl) AllP.nil ?_
      refine To.thenN ?_
      refine Wp.ret ?_
      refine To.thenR ?_
      refine To.blockR ?_
      refine To.thenR ?_
      refine To.keep (kk := [2]) (kl := [1003]) (K' := [(2, .row 1003)]) (L' := [(1003, 9, [.rowc false (α := List UInt8) [] E_string v3])]) (by kernel_rfl) (by kernel_rfl) ?_
      refine To.pre (St.rename 1003 1002 (by decide) (K' := [(2, .row 1002)]) (L' := [(1002, 9, [.rowc false (α := List UInt8) [] E_string v3])]) (by kernel_rfl) (by kernel_rfl) (by kernel_rfl)) ?_
      refine To.keep (kk := [2]) (kl := [1002]) (K' := [(2, .row 1002)]) (L' := [(1002, 9, [.rowc false (α := List UInt8) [] E_string v3])]) (by kernel_rfl) (by kernel_rfl) ?_
      cases h
      exact hQ
    · replace h := if_f hb h
      refine Wp.skip ?_
      refine To.thenN ?_
      obtain ⟨hc2, h⟩ := chk_of h
      obtain ⟨hc3, h⟩ := chk_of h
      refine Wp.region hΓ [] [(5, .recs (α := List UInt8) [] E_string ([((v0)[Int.toNat o1]?.getD [])])), (6, .recs (α := List UInt8) [] E_string (v3 ++ ([((v0)[Int.toNat o1]?.getD [])] : List (List UInt8))))] [] [0, 3] [54] (K' := [(0, .recs (α := List UInt8) [] E_string v0), (3, .row 54)]) (L' := [(54, 9, [.rowc false (α := List UInt8) [] E_string (v3 ++ ([((v0)[Int.toNat o1]?.getD [])] : List (List UInt8)))])]) (ob := [(decide (0 ≤ o1 ∧ o1 < (List.length v0 : Int))) = true, (MkOb 1 [.str ((v0)[Int.toNat o1]?.getD [])] 1 (.recs (α := List UInt8) [] E_string ([((v0)[Int.toNat o1]?.getD [])])) ∧ GoodR (.recs (α := List UInt8) [] E_string ([((v0)[Int.toNat o1]?.getD [])]))), (decide ((List.length v3 + List.length ([((v0)[Int.toNat o1]?.getD [])] : List (List UInt8))) * (16 + 1) ≤ limit)) = true, (AppOb [] E_string v3 (List.flatMap E_string ([((v0)[Int.toNat o1]?.getD [])] : List (List UInt8))) (List.length ([((v0)[Int.toNat o1]?.getD [])] : List (List UInt8))) (.recs (α := List UInt8) [] E_string (v3 ++ ([((v0)[Int.toNat o1]?.getD [])] : List (List UInt8)))) ∧ GoodR (.recs (α := List UInt8) [] E_string (v3 ++ ([((v0)[Int.toNat o1]?.getD [])] : List (List UInt8)))))]) (by kernel_rfl) (AllP.cons hc2 (AllP.cons (mkOb (by kernel_rfl) rfl (by kernel_rfl) (good_E_string _)) (AllP.cons hc3 (AllP.cons (appOb rfl rfl (good_E_string _)) AllP.nil)))) ?_
      refine To.blockN ?_
      refine To.keep (kk := [0, 3]) (kl := [54]) (K' := [(0, .recs (α := List UInt8) [] E_string v0), (3, .row 54)]) (L' := [(54, 9, [.rowc false (α := List UInt8) [] E_string (v3 ++ ([((v0)[Int.toNat o1]?.getD [])] : List (List UInt8)))])]) (by kernel_rfl) (by kernel_rfl) ?_
      refine To.pre (St.rename 54 1003 (by decide) (K' := [(0, .recs (α := List UInt8) [] E_string v0), (3, .row 1003)]) (L' := [(1003, 9, [.rowc false (α := List UInt8) [] E_string (v3 ++ ([((v0)[Int.toNat o1]?.getD [])] : List (List UInt8)))])]) (by kernel_rfl) (by kernel_rfl) (by kernel_rfl)) ?_
      refine To.keep (kk := [0, 3]) (kl := [1003]) (K' := [(0, .recs (α := List UInt8) [] E_string v0), (3, .row 1003)]) (L' := [(1003, 9, [.rowc false (α := List UInt8) [] E_string (v3 ++ ([((v0)[Int.toNat o1]?.getD [])] : List (List UInt8)))])]) (by kernel_rfl) (by kernel_rfl) ?_
      refine To.again ?_
      exact ih (v3 ++ ([((v0)[Int.toNat o1]?.getD [])] : List (List UInt8))) _ h hQ
def ref02_Sorted (n : Nat) (a0 : List (List UInt8)) : Option ((List (List UInt8))) :=
  (ref02_Sorted_l1 n a0 n ([] : List (List UInt8))).bind fun o1 =>
  some o1
theorem ok_ref02_Sorted (n : Nat) (a0 : List (List UInt8)) (r : (List (List UInt8))) (h : ref02_Sorted n a0 = some r) : CallsX Tryd.prog 23 [.recs (α := List UInt8) [] E_string a0] (.recs (α := List UInt8) [] E_string r) := by
  unfold ref02_Sorted at h
  refine callsX_of (fn := Tryd.f23) (by kernel_rfl) rfl (by kernel_rfl) (Nat.le_of_ble_eq_true (by kernel_rfl)) fun F0 w0 _ => ?_
  refine Wp.keep (kk := [0]) (kl := []) (K' := [(0, .recs (α := List UInt8) [] E_string a0)]) (L' := []) (by kernel_rfl) (by kernel_rfl) ?_
  refine Wp.seq ?_
  refine Wp.region hΓ [] [] [] [0] [] (K' := [(0, .recs (α := List UInt8) [] E_string a0)]) (L' := []) (ob := []) (by kernel_rfl) AllP.nil ?_
  refine To.thenN ?_
  refine Wp.seq ?_
  refine Wp.region hΓ [] [(0, .recs (α := List UInt8) [] E_string [])] [] [0, 3] [6] (K' := [(0, .recs (α := List UInt8) [] E_string a0), (3, .row 6)]) (L' := [(6, 9, [.rowc false (α := List UInt8) [] E_string []])]) (ob := [(MkOb 1 [] 0 (.recs (α := List UInt8) [] E_string []) ∧ GoodR (.recs (α := List UInt8) [] E_string []))]) (by kernel_rfl) (AllP.cons (mkOb (by kernel_rfl) rfl (by kernel_rfl) (good_E_string _)) AllP.nil) ?_
  refine To.thenN ?_
  refine Wp.block ?_
  obtain ⟨o1, ho1, h⟩ := bind_of h
  refine Wp.keep (kk := [0, 3]) (kl := [6]) (K' := [(0, .recs (α := List UInt8) [] E_string a0), (3, .row 6)]) (L' := [(6, 9, [.rowc false (α := List UInt8) [] E_string []])]) (by kernel_rfl) (by kernel_rfl) ?_
  refine Wp.pre (St.rename 6 1003 (by decide) (K' := [(0, .recs (α := List UInt8) [] E_string a0), (3, .row 1003)]) (L' := [(1003, 9, [.rowc false (α := List UInt8) [] E_string []])]) (by kernel_rfl) (by kernel_rfl) (by kernel_rfl)) ?_
  refine Wp.keep (kk := [0, 3]) (kl := [1003]) (K' := [(0, .recs (α := List UInt8) [] E_string a0), (3, .row 1003)]) (L' := [(1003, 9, [.rowc false (α := List UInt8) [] E_string []])]) (by kernel_rfl) (by kernel_rfl) ?_
  refine Wp.loopL ?_
  refine ok_ref02_Sorted_l1 n a0 n ([] : List (List UInt8)) o1 ho1 ?_
  refine To.blockR ?_
  refine To.keep (kk := [2]) (kl := [1002]) (K' := [(2, .row 1002)]) (L' := [(1002, 9, [.rowc false (α := List UInt8) [] E_string o1])]) (by kernel_rfl) (by kernel_rfl) ?_
  refine To.pre (St.settle (ks := [1002]) (kk := [2]) (kl := [1002]) (K' := [(2, .row 1002)]) (L' := [(1002, 9, [.rowc true (α := List UInt8) [] E_string o1])]) (by kernel_rfl)) ?_
  refine To.pre (St.sealK [2] (K' := [(2, .recs (α := List UInt8) [] E_string o1)]) (by kernel_rfl)) ?_
  refine To.keep (kk := [2]) (kl := []) (K' := [(2, .recs (α := List UInt8) [] E_string o1)]) (L' := []) (by kernel_rfl) (by kernel_rfl) ?_
  cases h
  exact To.done hΓ (by kernel_rfl)
def ref13_Names (n : Nat) (a0 : List (S_ref13_Part)) : Option ((List (List UInt8))) :=
  (ref13_names n a0).bind fun r1 =>
  (ref02_Sorted n r1).bind fun r2 =>
  some r2
theorem ok_ref13_Names (n : Nat) (a0 : List (S_ref13_Part)) (r : (List (List UInt8))) (h : ref13_Names n a0 = some r) : CallsX Tryd.prog 13 [.recs (α := S_ref13_Part) (S_ref13_Part.mk [] [] 0 []) E_ref13_Part a0] (.recs (α := List UInt8) [] E_string r) := by
  unfold ref13_Names at h
  refine callsX_of (fn := Tryd.f13) (by kernel_rfl) rfl (by kernel_rfl) (Nat.le_of_ble_eq_true (by kernel_rfl)) fun F0 w0 _ => ?_
  refine Wp.keep (kk := [0]) (kl := []) (K' := [(0, .recs (α := S_ref13_Part) (S_ref13_Part.mk [] [] 0 []) E_ref13_Part a0)]) (L' := []) (by kernel_rfl) (by kernel_rfl) ?_
  refine Wp.seq ?_
  refine Wp.region hΓ [] [] [] [0] [] (K' := [(0, .recs (α := S_ref13_Part) (S_ref13_Part.mk [] [] 0 []) E_ref13_Part a0)]) (L' := []) (ob := []) (by kernel_rfl) AllP.nil ?_
  refine To.thenN ?_
  refine Wp.seq ?_
  obtain ⟨r1, hr1, h⟩ := bind_of h
  obtain ⟨r2, hr2, h⟩ := bind_of h
  refine Wp.region hΓ [] [(1, .recs (α := List UInt8) [] E_string r1), (2, .recs (α := List UInt8) [] E_string r2)] [] [2] [] (K' := [(2, .recs (α := List UInt8) [] E_string r2)]) (L' := []) (ob := [(true = true → CX Tryd.prog 24 [.recs (α := S_ref13_Part) (S_ref13_Part.mk [] [] 0 []) E_ref13_Part a0] (.recs (α := List UInt8) [] E_string r1)), (true = true → CX Tryd.prog 23 [.recs (α := List UInt8) [] E_string r1] (.recs (α := List UInt8) [] E_string r2))]) (by kernel_rfl) (AllP.cons (fun _ => cx (ok_ref13_names n a0 _ hr1)) (AllP.cons (fun _ => cx (ok_ref02_Sorted n r1 _ hr2)) AllP.nil)) ?_
  refine To.thenN ?_
  refine Wp.ret ?_
  refine To.keep (kk := [2]) (kl := []) (K' := [(2, .recs (α := List UInt8) [] E_string r2)]) (L' := []) (by kernel_rfl) (by kernel_rfl) ?_
  cases h
  exact To.done hΓ (by kernel_rfl)
def ref02_Same_l1 (n : Nat) (v0 : List (List UInt8)) (v1 : List (List UInt8)) : Nat → Int → Option (Sum (Unit) (Bool))
  | 0, _ => none
  | k + 1, v5 => if (decide (v5 < (List.length v0 : Int))) = true then (if (decide (0 ≤ v5 ∧ v5 < (List.length v0 : Int))) = true then (if (decide (0 ≤ v5 ∧ v5 < (List.length v1 : Int))) = true then (if (!(((v0)[Int.toNat v5]?.getD []) == ((v1)[Int.toNat v5]?.getD []))) = true then (some (.inr false))
  else (ref02_Same_l1 n v0 v1 k (IntKind.wrap .i64 (v5 + 1)))) else none) else none)
  else (some (.inl ()))
theorem ok_ref02_Same_l1 (n : Nat) (v0 : List (List UInt8)) (v1 : List (List UInt8)) {F0 : Fz} {w0 : Pt Tryd.prog} {Q : Exit → Act → World → Prop} (k : Nat) : ∀ (v5 : Int) (o : Sum (Unit) (Bool)), ref02_Same_l1 n v0 v1 k v5 = some o → (Sum.elim (fun s => To 26 F0 w0 [] [] (.exit 0) Q) (fun s => To 26 F0 w0 [(4, .val (.bool s))] [] .ret Q)) o → WL Tryd.prog 26 F0 w0 [(0, .recs (α := List UInt8) [] E_string v0), (1, .recs (α := List UInt8) [] E_string v1), (5, .val (.int .i64 v5))] [] (cI (cI (cB (cA (cB (cB (cF Tryd.f11))))))) Q := by
  induction k with
  | zero => intro v5 o h; cases h
  | succ k ih =>
    intro v5 o h hQ
    rw [ref02_Same_l1] at h
    refine WL.round ?_
    refine Wp.seq ?_
    refine Wp.seq ?_
    refine Wp.region hΓ [] [] [] [0, 1, 5, 14] [] (K' := [(0, .recs (α := List UInt8) [] E_string v0), (1, .recs (α := List UInt8) [] E_string v1), (5, .val (.int .i64 v5)), (14, .val (.bool (decide (v5 < (List.length v0 : Int)))))]) (L' := []) (ob := []) (by kernel_rfl) AllP.nil ?_
    refine To.thenN ?_
    refine Wp.cond (b := (decide (v5 < (List.length v0 : Int)))) (by kernel_rfl) (fun hb => ?_) (fun hb => ?_)
    · replace h := if_t hb h
      refine Wp.skip ?_
      refine To.thenN ?_
      refine Wp.seq ?_
      refine Wp.block ?_
      refine Wp.seq ?_
      obtain ⟨hc1, h⟩ := chk_of h
      obtain ⟨hc2, h⟩ := chk_of h
      refine Wp.regionD hm hΓ [] [0, 1, 5, 25] [] (K' := [(0, .recs (α := List UInt8) [] E_string v0), (1, .recs (α := List UInt8) [] E_string v1), (5, .val (.int .i64 v5)), (25, .val (.bool (!(((v0)[Int.toNat v5]?.getD []) == ((v1)[Int.toNat v5]?.getD [])))))]) (L' := []) (ob := [(decide (0 ≤ v5 ∧ v5 < (List.length v0 : Int))) = true, (decide (0 ≤ v5 ∧ v5 < (List.length v1 : Int))) = true]) (by kernel_rfl) (AllP.cons hc1 (AllP.cons hc2 AllP.nil)) ?_
      refine To.thenN ?_
      refine Wp.cond (b := (!(((v0)[Int.toNat v5]?.getD []) == ((v1)[Int.toNat v5]?.getD [])))) (by kernel_rfl) (fun hb => ?_) (fun hb => ?_)
      · replace h := if_t hb h
        refine Wp.seq ?_
        refine Wp.region hΓ [] [] [] [4] [] (K' := [(4, .val (.bool false))]) (L' := []) (ob := []) (by kernel_rfl) AllP.nil ?_
        refine To.thenN ?_
        refine Wp.ret ?_
        refine To.blockR ?_
        refine To.thenR ?_
        refine To.thenR ?_
        refine To.keep (kk := [4]) (kl := []) (K' := [(4, .val (.bool false))]) (L' := []) (by kernel_rfl) (by kernel_rfl) ?_
        cases h
        exact hQ
      · replace h := if_f hb h
        refine Wp.skip ?_
        refine To.blockN ?_
        refine To.thenN ?_
        refine Wp.region hΓ [] [] [] [0, 1, 5] [] (K' := [(0, .recs (α := List UInt8) [] E_string v0), (1, .recs (α := List UInt8) [] E_string v1), (5, .val (.int .i64 (IntKind.wrap .i64 (v5 + 1))))]) (L' := []) (ob := []) (by kernel_rfl) AllP.nil ?_
        refine To.keep (kk := [0, 1, 5]) (kl := []) (K' := [(0, .recs (α := List UInt8) [] E_string v0), (1, .recs (α := List UInt8) [] E_string v1), (5, .val (.int .i64 (IntKind.wrap .i64 (v5 + 1))))]) (L' := []) (by kernel_rfl) (by kernel_rfl) ?_
        refine To.again ?_
        exact ih (IntKind.wrap .i64 (v5 + 1)) _ h hQ
    · replace h := if_f hb h
      refine Wp.exit ?_
      refine To.thenX ?_
      refine To.thenX ?_
      refine To.keep (kk := []) (kl := []) (K' := []) (L' := []) (by kernel_rfl) (by kernel_rfl) ?_
      cases h
      exact hQ
def ref02_Same (n : Nat) (a0 : List (List UInt8)) (a1 : List (List UInt8)) : Option (Bool) :=
  if ((List.length a0 : Int) != (List.length a1 : Int)) = true then some false
  else ((ref02_Same_l1 n a0 a1 n 0).bind fun o1 =>
  (Sum.elim (fun o1 => some true) (fun o1 => some o1)) o1)
theorem ok_ref02_Same (n : Nat) (a0 : List (List UInt8)) (a1 : List (List UInt8)) (r : Bool) (h : ref02_Same n a0 a1 = some r) : CallsX Tryd.prog 11 [.recs (α := List UInt8) [] E_string a0, .recs (α := List UInt8) [] E_string a1] (.val (.bool r)) := by
  unfold ref02_Same at h
  refine callsX_of (fn := Tryd.f11) (by kernel_rfl) rfl (by kernel_rfl) (Nat.le_of_ble_eq_true (by kernel_rfl)) fun F0 w0 _ => ?_
  refine Wp.keep (kk := [0, 1]) (kl := []) (K' := [(0, .recs (α := List UInt8) [] E_string a0), (1, .recs (α := List UInt8) [] E_string a1)]) (L' := []) (by kernel_rfl) (by kernel_rfl) ?_
  refine Wp.seq ?_
  refine Wp.region hΓ [] [] [] [0, 1] [] (K' := [(0, .recs (α := List UInt8) [] E_string a0), (1, .recs (α := List UInt8) [] E_string a1)]) (L' := []) (ob := []) (by kernel_rfl) AllP.nil ?_
  refine To.thenN ?_
  refine Wp.seq ?_
  refine Wp.seq ?_
  refine Wp.region hΓ [] [] [] [0, 1, 10] [] (K' := [(0, .recs (α := List UInt8) [] E_string a0), (1, .recs (α := List UInt8) [] E_string a1), (10, .val (.bool ((List.length a0 : Int) != (List.length a1 : Int))))]) (L' := []) (ob := []) (by kernel_rfl) AllP.nil ?_
  refine To.thenN ?_
  refine Wp.cond (b := ((List.length a0 : Int) != (List.length a1 : Int))) (by kernel_rfl) (fun hb => ?_) (fun hb => ?_)
  · replace h := if_t hb h
    refine Wp.seq ?_
    refine Wp.region hΓ [] [] [] [4] [] (K' := [(4, .val (.bool false))]) (L' := []) (ob := []) (by kernel_rfl) AllP.nil ?_
    refine To.thenN ?_
    refine Wp.ret ?_
    refine To.thenR ?_
    refine To.keep (kk := [4]) (kl := []) (K' := [(4, .val (.bool false))]) (L' := []) (by kernel_rfl) (by kernel_rfl) ?_
    cases h
    exact To.done hΓ (by kernel_rfl)
  · replace h := if_f hb h
    refine Wp.skip ?_
    refine To.thenN ?_
    refine Wp.seq ?_
    refine Wp.seq ?_
    refine Wp.region hΓ [] [] [] [0, 1, 5] [] (K' := [(0, .recs (α := List UInt8) [] E_string a0), (1, .recs (α := List UInt8) [] E_string a1), (5, .val (.int .i64 0))]) (L' := []) (ob := []) (by kernel_rfl) AllP.nil ?_
    refine To.thenN ?_
    refine Wp.block ?_
    obtain ⟨o1, ho1, h⟩ := bind_of h
    refine Wp.keep (kk := [0, 1, 5]) (kl := []) (K' := [(0, .recs (α := List UInt8) [] E_string a0), (1, .recs (α := List UInt8) [] E_string a1), (5, .val (.int .i64 0))]) (L' := []) (by kernel_rfl) (by kernel_rfl) ?_
    refine Wp.loopL ?_
    refine ok_ref02_Same_l1 n a0 a1 n 0 o1 ho1 ?_
    rcases o1 with o1 | o1
    · replace h := sum_l h
      refine To.blockX ?_
      refine To.thenN ?_
      refine Wp.seq ?_
      refine Wp.region hΓ [] [] [] [4] [] (K' := [(4, .val (.bool true))]) (L' := []) (ob := []) (by kernel_rfl) AllP.nil ?_
      refine To.thenN ?_
      refine Wp.ret ?_
      refine To.keep (kk := [4]) (kl := []) (K' := [(4, .val (.bool true))]) (L' := []) (by kernel_rfl) (by kernel_rfl) ?_
      cases h
      exact To.done hΓ (by kernel_rfl)
    · replace h := sum_r h
      refine To.blockR ?_
      refine To.thenR ?_
      refine To.keep (kk := [4]) (kl := []) (K' := [(4, .val (.bool o1))]) (L' := []) (by kernel_rfl) (by kernel_rfl) ?_
      cases h
      exact To.done hΓ (by kernel_rfl)
def tmpl_Deep_j2 (R_tmpl_Deep : (List (S_tmpl_Part)) → Option (Int)) (n : Nat) (v3 : Int) (v6 : List (S_tmpl_Part)) (v7 : Int) (v8 : Int) : Option (Int) :=
  if (decide (0 ≤ v8 ∧ v8 < (List.length v6 : Int))) = true then (if ((((v6)[Int.toNat v8]?.getD (S_tmpl_Part.mk [] [] 0 [])).f_Op) != 0) = true then ((R_tmpl_Deep (((v6)[Int.toNat v8]?.getD (S_tmpl_Part.mk [] [] 0 [])).f_Sub)).bind fun r1 =>
  some (if (IntKind.wrap .i64 (1 + r1)) > v3 then (IntKind.wrap .i64 (1 + r1)) else v3))
  else some v3) else none
theorem ok_tmpl_Deep_j2 (R_tmpl_Deep : (List (S_tmpl_Part)) → Option (Int)) (hR_tmpl_Deep : ∀ (a0 : List (S_tmpl_Part)) (r : Int), R_tmpl_Deep a0 = some r → CallsX Tryd.prog 14 [.recs (α := S_tmpl_Part) (S_tmpl_Part.mk [] [] 0 []) E_tmpl_Part a0] (.val (.int .i64 r))) (n : Nat) (v3 : Int) (v6 : List (S_tmpl_Part)) (v7 : Int) (v8 : Int) (o : Int) (h : tmpl_Deep_j2 R_tmpl_Deep n v3 v6 v7 v8 = some o) {F0 : Fz} {w0 : Pt Tryd.prog} {Q : Exit → Act → World → Prop} (hQ : To 23 F0 w0 [(3, .val (.int .i64 o)), (6, .recs (α := S_tmpl_Part) (S_tmpl_Part.mk [] [] 0 []) E_tmpl_Part v6), (7, .val (.int .i64 v7)), (8, .val (.int .i64 v8))] [] .normal Q) : Wp Tryd.prog 23 F0 w0 [(3, .val (.int .i64 v3)), (6, .recs (α := S_tmpl_Part) (S_tmpl_Part.mk [] [] 0 []) E_tmpl_Part v6), (7, .val (.int .i64 v7)), (8, .val (.int .i64 v8))] [] (cA (cB (cB (cI (cI (cB (cA (cB (cB (cF Tryd.f14)))))))))) Q := by
  unfold tmpl_Deep_j2 at h
  refine Wp.block ?_
  refine Wp.seq ?_
  obtain ⟨hc2, h⟩ := chk_of h
  refine Wp.region hΓ [] [] [] [3, 5, 6, 7, 8] [5] (K' := [(3, .val (.int .i64 v3)), (5, .own 5 0), (6, .recs (α := S_tmpl_Part) (S_tmpl_Part.mk [] [] 0 []) E_tmpl_Part v6), (7, .val (.int .i64 v7)), (8, .val (.int .i64 v8))]) (L' := [(5, 32, [.str (((v6)[Int.toNat v8]?.getD (S_tmpl_Part.mk [] [] 0 [])).f_Name), .str (((v6)[Int.toNat v8]?.getD (S_tmpl_Part.mk [] [] 0 [])).f_Text), .val (.int .i64 (((v6)[Int.toNat v8]?.getD (S_tmpl_Part.mk [] [] 0 [])).f_Op)), .tree (α := S_tmpl_Part) (S_tmpl_Part.mk [] [] 0 []) pre_S_tmpl_Part kids_S_tmpl_Part (((v6)[Int.toNat v8]?.getD (S_tmpl_Part.mk [] [] 0 [])).f_Sub)])]) (ob := [(decide (0 ≤ v8 ∧ v8 < (List.length v6 : Int))) = true]) (by kernel_rfl) (AllP.cons hc2 AllP.nil) ?_
  refine To.thenN ?_
  refine Wp.seq ?_
  refine Wp.region hΓ [] [] [] [3, 5, 6, 7, 8, 14] [5] (K' := [(3, .val (.int .i64 v3)), (5, .own 5 0), (6, .recs (α := S_tmpl_Part) (S_tmpl_Part.mk [] [] 0 []) E_tmpl_Part v6), (7, .val (.int .i64 v7)), (8, .val (.int .i64 v8)), (14, .val (.bool ((((v6)[Int.toNat v8]?.getD (S_tmpl_Part.mk [] [] 0 [])).f_Op) != 0)))]) (L' := [(5, 32, [.str (((v6)[Int.toNat v8]?.getD (S_tmpl_Part.mk [] [] 0 [])).f_Name), .str (((v6)[Int.toNat v8]?.getD (S_tmpl_Part.mk [] [] 0 [])).f_Text), .val (.int .i64 (((v6)[Int.toNat v8]?.getD (S_tmpl_Part.mk [] [] 0 [])).f_Op)), .tree (α := S_tmpl_Part) (S_tmpl_Part.mk [] [] 0 []) pre_S_tmpl_Part kids_S_tmpl_Part (((v6)[Int.toNat v8]?.getD (S_tmpl_Part.mk [] [] 0 [])).f_Sub)])]) (ob := []) (by kernel_rfl) AllP.nil ?_
  refine To.thenN ?_
  refine Wp.cond (b := ((((v6)[Int.toNat v8]?.getD (S_tmpl_Part.mk [] [] 0 [])).f_Op) != 0)) (by kernel_rfl) (fun hb => ?_) (fun hb => ?_)
  · replace h := if_t hb h
    obtain ⟨r1, hr1, h⟩ := bind_of h
    refine Wp.region hΓ [] [(3, .val (.int .i64 r1))] [] [3, 6, 7, 8] [] (K' := [(3, .val (.int .i64 (if (IntKind.wrap .i64 (1 + r1)) > v3 then (IntKind.wrap .i64 (1 + r1)) else v3))), (6, .recs (α := S_tmpl_Part) (S_tmpl_Part.mk [] [] 0 []) E_tmpl_Part v6), (7, .val (.int .i64 v7)), (8, .val (.int .i64 v8))]) (L' := []) (ob := [(true = true → CX Tryd.prog 14 [.recs (α := S_tmpl_Part) (S_tmpl_Part.mk [] [] 0 []) E_tmpl_Part (((v6)[Int.toNat v8]?.getD (S_tmpl_Part.mk [] [] 0 [])).f_Sub)] (.val (.int .i64 r1)))]) (by kernel_rfl) (AllP.cons (fun _ => cx (hR_tmpl_Deep (((v6)[Int.toNat v8]?.getD (S_tmpl_Part.mk [] [] 0 [])).f_Sub) _ hr1)) AllP.nil) ?_
    refine To.blockN ?_
    refine To.keep (kk := [3, 6, 7, 8]) (kl := []) (K' := [(3, .val (.int .i64 (if (IntKind.wrap .i64 (1 + r1)) > v3 then (IntKind.wrap .i64 (1 + r1)) else v3))), (6, .recs (α := S_tmpl_Part) (S_tmpl_Part.mk [] [] 0 []) E_tmpl_Part v6), (7, .val (.int .i64 v7)), (8, .val (.int .i64 v8))]) (L' := []) (by kernel_rfl) (by kernel_rfl) ?_
    cases h
    exact hQ
  · replace h := if_f hb h
    refine Wp.skip ?_
    refine To.blockN ?_
    refine To.keep (kk := [3, 6, 7, 8]) (kl := []) (K' := [(3, .val (.int .i64 v3)), (6, .recs (α := S_tmpl_Part) (S_tmpl_Part.mk [] [] 0 []) E_tmpl_Part v6), (7, .val (.int .i64 v7)), (8, .val (.int .i64 v8))]) (L' := []) (by kernel_rfl) (by kernel_rfl) ?_
    cases h
    exact hQ
def tmpl_Deep_l1 (R_tmpl_Deep : (List (S_tmpl_Part)) → Option (Int)) (n : Nat) (v6 : List (S_tmpl_Part)) (v7 : Int) : Nat → Int → Int → Option (Int)
  | 0, _, _ => none
  | k + 1, v3, v8 => if (decide (v8 < v7)) = true then ((tmpl_Deep_j2 R_tmpl_Deep n v3 v6 v7 v8).bind fun o1 =>
  tmpl_Deep_l1 R_tmpl_Deep n v6 v7 k o1 (IntKind.wrap .i64 (v8 + 1)))
  else some v3
theorem ok_tmpl_Deep_l1 (R_tmpl_Deep : (List (S_tmpl_Part)) → Option (Int)) (hR_tmpl_Deep : ∀ (a0 : List (S_tmpl_Part)) (r : Int), R_tmpl_Deep a0 = some r → CallsX Tryd.prog 14 [.recs (α := S_tmpl_Part) (S_tmpl_Part.mk [] [] 0 []) E_tmpl_Part a0] (.val (.int .i64 r))) (n : Nat) (v6 : List (S_tmpl_Part)) (v7 : Int) {F0 : Fz} {w0 : Pt Tryd.prog} {Q : Exit → Act → World → Prop} (k : Nat) : ∀ (v3 : Int) (v8 : Int) (o : Int), tmpl_Deep_l1 R_tmpl_Deep n v6 v7 k v3 v8 = some o → To 23 F0 w0 [(3, .val (.int .i64 o))] [] (.exit 0) Q → WL Tryd.prog 23 F0 w0 [(3, .val (.int .i64 v3)), (6, .recs (α := S_tmpl_Part) (S_tmpl_Part.mk [] [] 0 []) E_tmpl_Part v6), (7, .val (.int .i64 v7)), (8, .val (.int .i64 v8))] [] (cI (cI (cB (cA (cB (cB (cF Tryd.f14))))))) Q := by
  induction k with
  | zero => intro v3 v8 o h; cases h
  | succ k ih =>
    intro v3 v8 o h hQ
    rw [tmpl_Deep_l1] at h
    refine WL.round ?_
    refine Wp.seq ?_
    refine Wp.region hΓ [] [] [] [3, 6, 7, 8, 9] [] (K' := [(3, .val (.int .i64 v3)), (6, .recs (α := S_tmpl_Part) (S_tmpl_Part.mk [] [] 0 []) E_tmpl_Part v6), (7, .val (.int .i64 v7)), (8, .val (.int .i64 v8)), (9, .val (.bool (decide (v8 < v7))))]) (L' := []) (ob := []) (by kernel_rfl) AllP.nil ?_
    refine To.thenN ?_
    refine Wp.seq ?_
    refine Wp.cond (b := (decide (v8 < v7))) (by kernel_rfl) (fun hb => ?_) (fun hb => ?_)
    · replace h := if_t hb h
      refine Wp.skip ?_
      refine To.thenN ?_
      refine Wp.seq ?_
      obtain ⟨o1, ho1, h⟩ := bind_of h
      refine Wp.keep (kk := [3, 6, 7, 8]) (kl := []) (K' := [(3, .val (.int .i64 v3)), (6, .recs (α := S_tmpl_Part) (S_tmpl_Part.mk [] [] 0 []) E_tmpl_Part v6), (7, .val (.int .i64 v7)), (8, .val (.int .i64 v8))]) (L' := []) (by kernel_rfl) (by kernel_rfl) ?_
      refine ok_tmpl_Deep_j2 R_tmpl_Deep hR_tmpl_Deep n v3 v6 v7 v8 o1 ho1 ?_
      refine To.thenN ?_
      refine Wp.region hΓ [] [] [] [3, 6, 7, 8] [] (K' := [(3, .val (.int .i64 o1)), (6, .recs (α := S_tmpl_Part) (S_tmpl_Part.mk [] [] 0 []) E_tmpl_Part v6), (7, .val (.int .i64 v7)), (8, .val (.int .i64 (IntKind.wrap .i64 (v8 + 1))))]) (L' := []) (ob := []) (by kernel_rfl) AllP.nil ?_
      refine To.keep (kk := [3, 6, 7, 8]) (kl := []) (K' := [(3, .val (.int .i64 o1)), (6, .recs (α := S_tmpl_Part) (S_tmpl_Part.mk [] [] 0 []) E_tmpl_Part v6), (7, .val (.int .i64 v7)), (8, .val (.int .i64 (IntKind.wrap .i64 (v8 + 1))))]) (L' := []) (by kernel_rfl) (by kernel_rfl) ?_
      refine To.again ?_
      exact ih o1 (IntKind.wrap .i64 (v8 + 1)) _ h hQ
    · replace h := if_f hb h
      refine Wp.exit ?_
      refine To.thenX ?_
      refine To.thenX ?_
      refine To.keep (kk := [3]) (kl := []) (K' := [(3, .val (.int .i64 v3))]) (L' := []) (by kernel_rfl) (by kernel_rfl) ?_
      cases h
      exact hQ
def tmpl_Deep_b (R_tmpl_Deep : (List (S_tmpl_Part)) → Option (Int)) (n : Nat) (a0 : List (S_tmpl_Part)) : Option (Int) :=
  (tmpl_Deep_l1 R_tmpl_Deep n a0 (List.length a0 : Int) n 0 0).bind fun o1 =>
  some o1
theorem ok_tmpl_Deep_b (R_tmpl_Deep : (List (S_tmpl_Part)) → Option (Int)) (hR_tmpl_Deep : ∀ (a0 : List (S_tmpl_Part)) (r : Int), R_tmpl_Deep a0 = some r → CallsX Tryd.prog 14 [.recs (α := S_tmpl_Part) (S_tmpl_Part.mk [] [] 0 []) E_tmpl_Part a0] (.val (.int .i64 r))) (n : Nat) (a0 : List (S_tmpl_Part)) (r : Int) (h : tmpl_Deep_b R_tmpl_Deep n a0 = some r) : CallsX Tryd.prog 14 [.recs (α := S_tmpl_Part) (S_tmpl_Part.mk [] [] 0 []) E_tmpl_Part a0] (.val (.int .i64 r)) := by
  unfold tmpl_Deep_b at h
  refine callsX_of (fn := Tryd.f14) (by kernel_rfl) rfl (by kernel_rfl) (Nat.le_of_ble_eq_true (by kernel_rfl)) fun F0 w0 _ => ?_
  refine Wp.keep (kk := [0]) (kl := []) (K' := [(0, .recs (α := S_tmpl_Part) (S_tmpl_Part.mk [] [] 0 []) E_tmpl_Part a0)]) (L' := []) (by kernel_rfl) (by kernel_rfl) ?_
  refine Wp.seq ?_
  refine Wp.region hΓ [] [] [] [0] [] (K' := [(0, .recs (α := S_tmpl_Part) (S_tmpl_Part.mk [] [] 0 []) E_tmpl_Part a0)]) (L' := []) (ob := []) (by kernel_rfl) AllP.nil ?_
  refine To.thenN ?_
  refine Wp.seq ?_
  refine Wp.region hΓ [] [] [] [0, 3] [] (K' := [(0, .recs (α := S_tmpl_Part) (S_tmpl_Part.mk [] [] 0 []) E_tmpl_Part a0), (3, .val (.int .i64 0))]) (L' := []) (ob := []) (by kernel_rfl) AllP.nil ?_
  refine To.thenN ?_
  refine Wp.seq ?_
  refine Wp.seq ?_
  refine Wp.region hΓ [] [] [] [3, 6, 7, 8] [] (K' := [(3, .val (.int .i64 0)), (6, .recs (α := S_tmpl_Part) (S_tmpl_Part.mk [] [] 0 []) E_tmpl_Part a0), (7, .val (.int .i64 (List.length a0 : Int))), (8, .val (.int .i64 0))]) (L' := []) (ob := []) (by kernel_rfl) AllP.nil ?_
  refine To.thenN ?_
  refine Wp.block ?_
  obtain ⟨o1, ho1, h⟩ := bind_of h
  refine Wp.keep (kk := [3, 6, 7, 8]) (kl := []) (K' := [(3, .val (.int .i64 0)), (6, .recs (α := S_tmpl_Part) (S_tmpl_Part.mk [] [] 0 []) E_tmpl_Part a0), (7, .val (.int .i64 (List.length a0 : Int))), (8, .val (.int .i64 0))]) (L' := []) (by kernel_rfl) (by kernel_rfl) ?_
  refine Wp.loopL ?_
  refine ok_tmpl_Deep_l1 R_tmpl_Deep hR_tmpl_Deep n a0 (List.length a0 : Int) n 0 0 o1 ho1 ?_
  refine To.blockX ?_
  refine To.thenN ?_
  refine Wp.seq ?_
  refine Wp.region hΓ [] [] [] [2] [] (K' := [(2, .val (.int .i64 o1))]) (L' := []) (ob := []) (by kernel_rfl) AllP.nil ?_
  refine To.thenN ?_
  refine Wp.ret ?_
  refine To.keep (kk := [2]) (kl := []) (K' := [(2, .val (.int .i64 o1))]) (L' := []) (by kernel_rfl) (by kernel_rfl) ?_
  cases h
  exact To.done hΓ (by kernel_rfl)
def tmpl_Deep : Nat → (List (S_tmpl_Part)) → Option (Int)
  | 0 => fun _ => none
  | n + 1 => tmpl_Deep_b (tmpl_Deep n) n
theorem ok_tmpl_Deep (n : Nat) : ∀ (a0 : List (S_tmpl_Part)) (r : Int), tmpl_Deep n a0 = some r → CallsX Tryd.prog 14 [.recs (α := S_tmpl_Part) (S_tmpl_Part.mk [] [] 0 []) E_tmpl_Part a0] (.val (.int .i64 r)) := by
  induction n with
  | zero => intro a0 r h; cases h
  | succ n ih => exact fun a0 r h => ok_tmpl_Deep_b (tmpl_Deep n) ih n a0 r h
def ref13_Deep_j2 (R_ref13_Deep : (List (S_ref13_Part)) → Option (Int)) (n : Nat) (v0 : List (S_ref13_Part)) (v3 : Int) (v4 : Int) : Option (Int) :=
  if (decide (0 ≤ v4 ∧ v4 < (List.length v0 : Int))) = true then (if ((((v0)[Int.toNat v4]?.getD (S_ref13_Part.mk [] [] 0 [])).f_Op) != 0) = true then (if (decide (0 ≤ v4 ∧ v4 < (List.length v0 : Int))) = true then ((R_ref13_Deep (((v0)[Int.toNat v4]?.getD (S_ref13_Part.mk [] [] 0 [])).f_Sub)).bind fun r1 =>
  if (decide ((IntKind.wrap .i64 (1 + r1)) > v3)) = true then (some (IntKind.wrap .i64 (1 + r1)))
  else some v3) else none)
  else some v3) else none
theorem ok_ref13_Deep_j2 (R_ref13_Deep : (List (S_ref13_Part)) → Option (Int)) (hR_ref13_Deep : ∀ (a0 : List (S_ref13_Part)) (r : Int), R_ref13_Deep a0 = some r → CallsX Tryd.prog 15 [.recs (α := S_ref13_Part) (S_ref13_Part.mk [] [] 0 []) E_ref13_Part a0] (.val (.int .i64 r))) (n : Nat) (v0 : List (S_ref13_Part)) (v3 : Int) (v4 : Int) (o : Int) (h : ref13_Deep_j2 R_ref13_Deep n v0 v3 v4 = some o) {F0 : Fz} {w0 : Pt Tryd.prog} {Q : Exit → Act → World → Prop} (hQ : To 30 F0 w0 [(0, .recs (α := S_ref13_Part) (S_ref13_Part.mk [] [] 0 []) E_ref13_Part v0), (3, .val (.int .i64 o)), (4, .val (.int .i64 v4))] [] .normal Q) : Wp Tryd.prog 30 F0 w0 [(0, .recs (α := S_ref13_Part) (S_ref13_Part.mk [] [] 0 []) E_ref13_Part v0), (3, .val (.int .i64 v3)), (4, .val (.int .i64 v4))] [] (cA (cB (cI (cI (cB (cA (cB (cB (cF Tryd.f15))))))))) Q := by
  unfold ref13_Deep_j2 at h
  refine Wp.block ?_
  refine Wp.seq ?_
  obtain ⟨hc3, h⟩ := chk_of h
  refine Wp.region hΓ [] [] [] [0, 3, 4, 17] [] (K' := [(0, .recs (α := S_ref13_Part) (S_ref13_Part.mk [] [] 0 []) E_ref13_Part v0), (3, .val (.int .i64 v3)), (4, .val (.int .i64 v4)), (17, .val (.bool ((((v0)[Int.toNat v4]?.getD (S_ref13_Part.mk [] [] 0 [])).f_Op) != 0)))]) (L' := []) (ob := [(decide (0 ≤ v4 ∧ v4 < (List.length v0 : Int))) = true]) (by kernel_rfl) (AllP.cons hc3 AllP.nil) ?_
  refine To.thenN ?_
  refine Wp.cond (b := ((((v0)[Int.toNat v4]?.getD (S_ref13_Part.mk [] [] 0 [])).f_Op) != 0)) (by kernel_rfl) (fun hb => ?_) (fun hb => ?_)
  · replace h := if_t hb h
    refine Wp.seq ?_
    obtain ⟨hc2, h⟩ := chk_of h
    obtain ⟨r1, hr1, h⟩ := bind_of h
    refine Wp.region hΓ [] [(5, .val (.int .i64 r1))] [] [0, 3, 4, 5] [] (K' := [(0, .recs (α := S_ref13_Part) (S_ref13_Part.mk [] [] 0 []) E_ref13_Part v0), (3, .val (.int .i64 v3)), (4, .val (.int .i64 v4)), (5, .val (.int .i64 (IntKind.wrap .i64 (1 + r1))))]) (L' := []) (ob := [(decide (0 ≤ v4 ∧ v4 < (List.length v0 : Int))) = true, (true = true → CX Tryd.prog 15 [.recs (α := S_ref13_Part) (S_ref13_Part.mk [] [] 0 []) E_ref13_Part (((v0)[Int.toNat v4]?.getD (S_ref13_Part.mk [] [] 0 [])).f_Sub)] (.val (.int .i64 r1)))]) (by kernel_rfl) (AllP.cons hc2 (AllP.cons (fun _ => cx (hR_ref13_Deep (((v0)[Int.toNat v4]?.getD (S_ref13_Part.mk [] [] 0 [])).f_Sub) _ hr1)) AllP.nil)) ?_
    refine To.thenN ?_
    refine Wp.seq ?_
    refine Wp.region hΓ [] [] [] [0, 3, 4, 5, 27] [] (K' := [(0, .recs (α := S_ref13_Part) (S_ref13_Part.mk [] [] 0 []) E_ref13_Part v0), (3, .val (.int .i64 v3)), (4, .val (.int .i64 v4)), (5, .val (.int .i64 (IntKind.wrap .i64 (1 + r1)))), (27, .val (.bool (decide ((IntKind.wrap .i64 (1 + r1)) > v3))))]) (L' := []) (ob := []) (by kernel_rfl) AllP.nil ?_
    refine To.thenN ?_
    refine Wp.cond (b := (decide ((IntKind.wrap .i64 (1 + r1)) > v3))) (by kernel_rfl) (fun hb => ?_) (fun hb => ?_)
    · replace h := if_t hb h
      refine Wp.region hΓ [] [] [] [0, 3, 4] [] (K' := [(0, .recs (α := S_ref13_Part) (S_ref13_Part.mk [] [] 0 []) E_ref13_Part v0), (3, .val (.int .i64 (IntKind.wrap .i64 (1 + r1)))), (4, .val (.int .i64 v4))]) (L' := []) (ob := []) (by kernel_rfl) AllP.nil ?_
      refine To.blockN ?_
      refine To.keep (kk := [0, 3, 4]) (kl := []) (K' := [(0, .recs (α := S_ref13_Part) (S_ref13_Part.mk [] [] 0 []) E_ref13_Part v0), (3, .val (.int .i64 (IntKind.wrap .i64 (1 + r1)))), (4, .val (.int .i64 v4))]) (L' := []) (by kernel_rfl) (by kernel_rfl) ?_
      cases h
      exact hQ
    · replace h := if_f hb h
      refine Wp.skip ?_
      refine To.blockN ?_
      refine To.keep (kk := [0, 3, 4]) (kl := []) (K' := [(0, .recs (α := S_ref13_Part) (S_ref13_Part.mk [] [] 0 []) E_ref13_Part v0), (3, .val (.int .i64 v3)), (4, .val (.int .i64 v4))]) (L' := []) (by kernel_rfl) (by kernel_rfl) ?_
      cases h
      exact hQ
  · replace h := if_f hb h
    refine Wp.skip ?_
    refine To.blockN ?_
    refine To.keep (kk := [0, 3, 4]) (kl := []) (K' := [(0, .recs (α := S_ref13_Part) (S_ref13_Part.mk [] [] 0 []) E_ref13_Part v0), (3, .val (.int .i64 v3)), (4, .val (.int .i64 v4))]) (L' := []) (by kernel_rfl) (by kernel_rfl) ?_
    cases h
    exact hQ
def ref13_Deep_l1 (R_ref13_Deep : (List (S_ref13_Part)) → Option (Int)) (n : Nat) (v0 : List (S_ref13_Part)) : Nat → Int → Int → Option (Int)
  | 0, _, _ => none
  | k + 1, v3, v4 => if (decide (v4 < (List.length v0 : Int))) = true then ((ref13_Deep_j2 R_ref13_Deep n v0 v3 v4).bind fun o1 =>
  ref13_Deep_l1 R_ref13_Deep n v0 k o1 (IntKind.wrap .i64 (v4 + 1)))
  else some v3
theorem ok_ref13_Deep_l1 (R_ref13_Deep : (List (S_ref13_Part)) → Option (Int)) (hR_ref13_Deep : ∀ (a0 : List (S_ref13_Part)) (r : Int), R_ref13_Deep a0 = some r → CallsX Tryd.prog 15 [.recs (α := S_ref13_Part) (S_ref13_Part.mk [] [] 0 []) E_ref13_Part a0] (.val (.int .i64 r))) (n : Nat) (v0 : List (S_ref13_Part)) {F0 : Fz} {w0 : Pt Tryd.prog} {Q : Exit → Act → World → Prop} (k : Nat) : ∀ (v3 : Int) (v4 : Int) (o : Int), ref13_Deep_l1 R_ref13_Deep n v0 k v3 v4 = some o → To 30 F0 w0 [(3, .val (.int .i64 o))] [] (.exit 0) Q → WL Tryd.prog 30 F0 w0 [(0, .recs (α := S_ref13_Part) (S_ref13_Part.mk [] [] 0 []) E_ref13_Part v0), (3, .val (.int .i64 v3)), (4, .val (.int .i64 v4))] [] (cI (cI (cB (cA (cB (cB (cF Tryd.f15))))))) Q := by
  induction k with
  | zero => intro v3 v4 o h; cases h
  | succ k ih =>
    intro v3 v4 o h hQ
    rw [ref13_Deep_l1] at h
    refine WL.round ?_
    refine Wp.seq ?_
    refine Wp.seq ?_
    refine Wp.region hΓ [] [] [] [0, 3, 4, 9] [] (K' := [(0, .recs (α := S_ref13_Part) (S_ref13_Part.mk [] [] 0 []) E_ref13_Part v0), (3, .val (.int .i64 v3)), (4, .val (.int .i64 v4)), (9, .val (.bool (decide (v4 < (List.length v0 : Int)))))]) (L' := []) (ob := []) (by kernel_rfl) AllP.nil ?_
    refine To.thenN ?_
    refine Wp.cond (b := (decide (v4 < (List.length v0 : Int)))) (by kernel_rfl) (fun hb => ?_) (fun hb => ?_)
    · replace h := if_t hb h
      refine Wp.skip ?_
      refine To.thenN ?_
      refine Wp.seq ?_
      obtain ⟨o1, ho1, h⟩ := bind_of h
      refine Wp.keep (kk := [0, 3, 4]) (kl := []) (K' := [(0, .recs (α := S_ref13_Part) (S_ref13_Part.mk [] [] 0 []) E_ref13_Part v0), (3, .val (.int .i64 v3)), (4, .val (.int .i64 v4))]) (L' := []) (by kernel_rfl) (by kernel_rfl) ?_
      refine ok_ref13_Deep_j2 R_ref13_Deep hR_ref13_Deep n v0 v3 v4 o1 ho1 ?_
      refine To.thenN ?_
      refine Wp.region hΓ [] [] [] [0, 3, 4] [] (K' := [(0, .recs (α := S_ref13_Part) (S_ref13_Part.mk [] [] 0 []) E_ref13_Part v0), (3, .val (.int .i64 o1)), (4, .val (.int .i64 (IntKind.wrap .i64 (v4 + 1))))]) (L' := []) (ob := []) (by kernel_rfl) AllP.nil ?_
      refine To.keep (kk := [0, 3, 4]) (kl := []) (K' := [(0, .recs (α := S_ref13_Part) (S_ref13_Part.mk [] [] 0 []) E_ref13_Part v0), (3, .val (.int .i64 o1)), (4, .val (.int .i64 (IntKind.wrap .i64 (v4 + 1))))]) (L' := []) (by kernel_rfl) (by kernel_rfl) ?_
      refine To.again ?_
      exact ih o1 (IntKind.wrap .i64 (v4 + 1)) _ h hQ
    · replace h := if_f hb h
      refine Wp.exit ?_
      refine To.thenX ?_
      refine To.thenX ?_
      refine To.keep (kk := [3]) (kl := []) (K' := [(3, .val (.int .i64 v3))]) (L' := []) (by kernel_rfl) (by kernel_rfl) ?_
      cases h
      exact hQ
def ref13_Deep_b (R_ref13_Deep : (List (S_ref13_Part)) → Option (Int)) (n : Nat) (a0 : List (S_ref13_Part)) : Option (Int) :=
  (ref13_Deep_l1 R_ref13_Deep n a0 n 0 0).bind fun o1 =>
  some o1
theorem ok_ref13_Deep_b (R_ref13_Deep : (List (S_ref13_Part)) → Option (Int)) (hR_ref13_Deep : ∀ (a0 : List (S_ref13_Part)) (r : Int), R_ref13_Deep a0 = some r → CallsX Tryd.prog 15 [.recs (α := S_ref13_Part) (S_ref13_Part.mk [] [] 0 []) E_ref13_Part a0] (.val (.int .i64 r))) (n : Nat) (a0 : List (S_ref13_Part)) (r : Int) (h : ref13_Deep_b R_ref13_Deep n a0 = some r) : CallsX Tryd.prog 15 [.recs (α := S_ref13_Part) (S_ref13_Part.mk [] [] 0 []) E_ref13_Part a0] (.val (.int .i64 r)) := by
  unfold ref13_Deep_b at h
  refine callsX_of (fn := Tryd.f15) (by kernel_rfl) rfl (by kernel_rfl) (Nat.le_of_ble_eq_true (by kernel_rfl)) fun F0 w0 _ => ?_
  refine Wp.keep (kk := [0]) (kl := []) (K' := [(0, .recs (α := S_ref13_Part) (S_ref13_Part.mk [] [] 0 []) E_ref13_Part a0)]) (L' := []) (by kernel_rfl) (by kernel_rfl) ?_
  refine Wp.seq ?_
  refine Wp.region hΓ [] [] [] [0] [] (K' := [(0, .recs (α := S_ref13_Part) (S_ref13_Part.mk [] [] 0 []) E_ref13_Part a0)]) (L' := []) (ob := []) (by kernel_rfl) AllP.nil ?_
  refine To.thenN ?_
  refine Wp.seq ?_
  refine Wp.region hΓ [] [] [] [0, 3] [] (K' := [(0, .recs (α := S_ref13_Part) (S_ref13_Part.mk [] [] 0 []) E_ref13_Part a0), (3, .val (.int .i64 0))]) (L' := []) (ob := []) (by kernel_rfl) AllP.nil ?_
  refine To.thenN ?_
  refine Wp.seq ?_
  refine Wp.seq ?_
  refine Wp.region hΓ [] [] [] [0, 3, 4] [] (K' := [(0, .recs (α := S_ref13_Part) (S_ref13_Part.mk [] [] 0 []) E_ref13_Part a0), (3, .val (.int .i64 0)), (4, .val (.int .i64 0))]) (L' := []) (ob := []) (by kernel_rfl) AllP.nil ?_
  refine To.thenN ?_
  refine Wp.block ?_
  obtain ⟨o1, ho1, h⟩ := bind_of h
  refine Wp.keep (kk := [0, 3, 4]) (kl := []) (K' := [(0, .recs (α := S_ref13_Part) (S_ref13_Part.mk [] [] 0 []) E_ref13_Part a0), (3, .val (.int .i64 0)), (4, .val (.int .i64 0))]) (L' := []) (by kernel_rfl) (by kernel_rfl) ?_
  refine Wp.loopL ?_
  refine ok_ref13_Deep_l1 R_ref13_Deep hR_ref13_Deep n a0 n 0 0 o1 ho1 ?_
  refine To.blockX ?_
  refine To.thenN ?_
  refine Wp.seq ?_
  refine Wp.region hΓ [] [] [] [2] [] (K' := [(2, .val (.int .i64 o1))]) (L' := []) (ob := []) (by kernel_rfl) AllP.nil ?_
  refine To.thenN ?_
  refine Wp.ret ?_
  refine To.keep (kk := [2]) (kl := []) (K' := [(2, .val (.int .i64 o1))]) (L' := []) (by kernel_rfl) (by kernel_rfl) ?_
  cases h
  exact To.done hΓ (by kernel_rfl)
def ref13_Deep : Nat → (List (S_ref13_Part)) → Option (Int)
  | 0 => fun _ => none
  | n + 1 => ref13_Deep_b (ref13_Deep n) n
theorem ok_ref13_Deep (n : Nat) : ∀ (a0 : List (S_ref13_Part)) (r : Int), ref13_Deep n a0 = some r → CallsX Tryd.prog 15 [.recs (α := S_ref13_Part) (S_ref13_Part.mk [] [] 0 []) E_ref13_Part a0] (.val (.int .i64 r)) := by
  induction n with
  | zero => intro a0 r h; cases h
  | succ n ih => exact fun a0 r h => ok_ref13_Deep_b (ref13_Deep n) ih n a0 r h
def law13_TmplTells (n : Nat) (a0 : List UInt8) : Option (Bool) :=
  if (decide ((List.length a0 : Int) > 2000)) = true then ((law13_awake n).bind fun r1 =>
  some r1)
  else ((tmpl_Parse n a0).bind fun r2 =>
  if (r2.2 != 0) = true then ((law13_awake n).bind fun r3 =>
  some r3)
  else ((law13_taken n r2.1).bind fun r4 =>
  (tmpl_Text n r2.1).bind fun r5 =>
  (ref13_Text n r4).bind fun r6 =>
  ((if ((r5 == r6) == true) = true then tmpl_Names n r2.1 else some [])).bind fun r7 =>
  ((if ((r5 == r6) == true) = true then ref13_Names n r4 else some [])).bind fun r8 =>
  ((if ((r5 == r6) == true) = true then ref02_Same n r7 r8 else some false)).bind fun r9 =>
  ((if ((bif (r5 == r6) then r9 else false) == true) = true then tmpl_Deep n r2.1 else some 0)).bind fun r10 =>
  ((if ((bif (r5 == r6) then r9 else false) == true) = true then ref13_Deep n r4 else some 0)).bind fun r11 =>
  ((if ((bif (bif (r5 == r6) then r9 else false) then (r10 == r11) else false) == true) = true then tmpl_Deep n r2.1 else some 0)).bind fun r12 =>
  ((if ((bif (bif (bif (r5 == r6) then r9 else false) then (r10 == r11) else false) then (decide (r12 ≤ 8)) else false) == true) = true then law13_awake n else some false)).bind fun r13 =>
  lett ((bif (bif (bif (bif (r5 == r6) then r9 else false) then (r10 == r11) else false) then (decide (r12 ≤ 8)) else false) then r13 else false) : Bool) fun x14 =>
  some x14))
theorem ok_law13_TmplTells (n : Nat) (a0 : List UInt8) (r : Bool) (h : law13_TmplTells n a0 = some r) : CallsX Tryd.prog 4 [.str a0] (.val (.bool r)) := by
  unfold law13_TmplTells at h
  refine callsX_of (fn := Tryd.f4) (by kernel_rfl) rfl (by kernel_rfl) (Nat.le_of_ble_eq_true (by kernel_rfl)) fun F0 w0 _ => ?_
  refine Wp.keep (kk := [0]) (kl := []) (K' := [(0, .str a0)]) (L' := []) (by kernel_rfl) (by kernel_rfl) ?_
  refine Wp.seq ?_
  refine Wp.region hΓ [] [] [] [0] [] (K' := [(0, .str a0)]) (L' := []) (ob := []) (by kernel_rfl) AllP.nil ?_
  refine To.thenN ?_
  refine Wp.seq ?_
  refine Wp.seq ?_
  refine Wp.region hΓ [] [] [] [0, 8] [] (K' := [(0, .str a0), (8, .val (.bool (decide ((List.length a0 : Int) > 2000))))]) (L' := []) (ob := []) (by kernel_rfl) AllP.nil ?_
  refine To.thenN ?_
  refine Wp.cond (b := (decide ((List.length a0 : Int) > 2000))) (by kernel_rfl) (fun hb => ?_) (fun hb => ?_)
  · replace h := if_t hb h
    refine Wp.seq ?_
    obtain ⟨r1, hr1, h⟩ := bind_of h
    refine Wp.region hΓ [] [(0, .val (.bool r1))] [] [2] [] (K' := [(2, .val (.bool r1))]) (L' := []) (ob := [(true = true → CX Tryd.prog 5 [] (.val (.bool r1)))]) (by kernel_rfl) (AllP.cons (fun _ => cx (ok_law13_awake n  _ hr1)) AllP.nil) ?_
    refine To.thenN ?_
    refine Wp.ret ?_
    refine To.thenR ?_
    refine To.keep (kk := [2]) (kl := []) (K' := [(2, .val (.bool r1))]) (L' := []) (by kernel_rfl) (by kernel_rfl) ?_
    cases h
    exact To.done hΓ (by kernel_rfl)
  · replace h := if_f hb h
    refine Wp.skip ?_
    refine To.thenN ?_
    refine Wp.seq ?_
    obtain ⟨r2, hr2, h⟩ := bind_of h
    refine Wp.region hΓ [] [(1, .tup [.recs (α := S_tmpl_Part) (S_tmpl_Part.mk [] [] 0 []) E_tmpl_Part r2.1, .val (.int .i64 r2.2)])] [] [3, 4] [] (K' := [(3, .recs (α := S_tmpl_Part) (S_tmpl_Part.mk [] [] 0 []) E_tmpl_Part r2.1), (4, .val (.int .i64 r2.2))]) (L' := []) (ob := [(true = true → CX Tryd.prog 6 [.str a0] (.tup [.recs (α := S_tmpl_Part) (S_tmpl_Part.mk [] [] 0 []) E_tmpl_Part r2.1, .val (.int .i64 r2.2)]))]) (by kernel_rfl) (AllP.cons (fun _ => cx (ok_tmpl_Parse n a0 _ hr2)) AllP.nil) ?_
    refine To.thenN ?_
    refine Wp.seq ?_
    refine Wp.seq ?_
    refine Wp.region hΓ [] [] [] [3, 16] [] (K' := [(3, .recs (α := S_tmpl_Part) (S_tmpl_Part.mk [] [] 0 []) E_tmpl_Part r2.1), (16, .val (.bool (r2.2 != 0)))]) (L' := []) (ob := []) (by kernel_rfl) AllP.nil ?_
    refine To.thenN ?_
    refine Wp.cond (b := (r2.2 != 0)) (by kernel_rfl) (fun hb => ?_) (fun hb => ?_)
    · replace h := if_t hb h
      refine Wp.seq ?_
      obtain ⟨r3, hr3, h⟩ := bind_of h
      refine Wp.region hΓ [] [(0, .val (.bool r3))] [] [2] [] (K' := [(2, .val (.bool r3))]) (L' := []) (ob := [(true = true → CX Tryd.prog 5 [] (.val (.bool r3)))]) (by kernel_rfl) (AllP.cons (fun _ => cx (ok_law13_awake n  _ hr3)) AllP.nil) ?_
      refine To.thenN ?_
      refine Wp.ret ?_
      refine To.thenR ?_
      refine To.keep (kk := [2]) (kl := []) (K' := [(2, .val (.bool r3))]) (L' := []) (by kernel_rfl) (by kernel_rfl) ?_
      cases h
      exact To.done hΓ (by kernel_rfl)
    · replace h := if_f hb h
      refine Wp.skip ?_
      refine To.thenN ?_
      refine Wp.seq ?_
      obtain ⟨r4, hr4, h⟩ := bind_of h
      refine Wp.region hΓ [] [(1, .recs (α := S_ref13_Part) (S_ref13_Part.mk [] [] 0 []) E_ref13_Part r4)] [] [3, 5] [] (K' := [(3, .recs (α := S_tmpl_Part) (S_tmpl_Part.mk [] [] 0 []) E_tmpl_Part r2.1), (5, .recs (α := S_ref13_Part) (S_ref13_Part.mk [] [] 0 []) E_ref13_Part r4)]) (L' := []) (ob := [(true = true → CX Tryd.prog 9 [.recs (α := S_tmpl_Part) (S_tmpl_Part.mk [] [] 0 []) E_tmpl_Part r2.1] (.recs (α := S_ref13_Part) (S_ref13_Part.mk [] [] 0 []) E_ref13_Part r4))]) (by kernel_rfl) (AllP.cons (fun _ => cx (ok_law13_taken n r2.1 _ hr4)) AllP.nil) ?_
      refine To.thenN ?_
      refine Wp.seq ?_
      obtain ⟨r5, hr5, h⟩ := bind_of h
      obtain ⟨r6, hr6, h⟩ := bind_of h
      obtain ⟨r7, hr7, h⟩ := bind_of h
      obtain ⟨r8, hr8, h⟩ := bind_of h
      obtain ⟨r9, hr9, h⟩ := bind_of h
      obtain ⟨r10, hr10, h⟩ := bind_of h
      obtain ⟨r11, hr11, h⟩ := bind_of h
      obtain ⟨r12, hr12, h⟩ := bind_of h
      obtain ⟨r13, hr13, h⟩ := bind_of h
      obtain ⟨x14, hx14, h⟩ := lett_of h
      refine Wp.region hΓ [] [(1, .str r5), (3, .str r6), (7, .recs (α := List UInt8) [] E_string r7), (9, .recs (α := List UInt8) [] E_string r8), (10, .val (.bool r9)), (14, .val (.int .i64 r10)), (16, .val (.int .i64 r11)), (21, .val (.int .i64 r12)), (25, .val (.bool r13))] [] [2] [] (K' := [(2, .val (.bool (bif (bif (bif (bif (r5 == r6) then r9 else false) then (r10 == r11) else false) then (decide (r12 ≤ 8)) else false) then r13 else false)))]) (L' := []) (ob := [(true = true → CX Tryd.prog 7 [.recs (α := S_tmpl_Part) (S_tmpl_Part.mk [] [] 0 []) E_tmpl_Part r2.1] (.str r5)), (true = true → CX Tryd.prog 10 [.recs (α := S_ref13_Part) (S_ref13_Part.mk [] [] 0 []) E_ref13_Part r4] (.str r6)), (((r5 == r6) == true) = true → CX Tryd.prog 12 [.recs (α := S_tmpl_Part) (S_tmpl_Part.mk [] [] 0 []) E_tmpl_Part r2.1] (.recs (α := List UInt8) [] E_string r7)), (((r5 == r6) == true) = true → CX Tryd.prog 13 [.recs (α := S_ref13_Part) (S_ref13_Part.mk [] [] 0 []) E_ref13_Part r4] (.recs (α := List UInt8) [] E_string r8)), (((r5 == r6) == true) = true → CX Tryd.prog 11 [.recs (α := List UInt8) [] E_string r7, .recs (α := List UInt8) [] E_string r8] (.val (.bool r9))), (((bif (r5 == r6) then r9 else false) == true) = true → CX Tryd.prog 14 [.recs (α := S_tmpl_Part) (S_tmpl_Part.mk [] [] 0 []) E_tmpl_Part r2.1] (.val (.int .i64 r10))), (((bif (r5 == r6) then r9 else false) == true) = true → CX Tryd.prog 15 [.recs (α := S_ref13_Part) (S_ref13_Part.mk [] [] 0 []) E_ref13_Part r4] (.val (.int .i64 r11))), (((bif (bif (r5 == r6) then r9 else false) then (r10 == r11) else false) == true) = true → CX Tryd.prog 14 [.recs (α := S_tmpl_Part) (S_tmpl_Part.mk [] [] 0 []) E_tmpl_Part r2.1] (.val (.int .i64 r12))), (((bif (bif (bif (r5 == r6) then r9 else false) then (r10 == r11) else false) then (decide (r12 ≤ 8)) else false) == true) = true → CX Tryd.prog 5 [] (.val (.bool r13)))]) (by kernel_rfl) (AllP.cons (fun _ => cx (ok_tmpl_Text n r2.1 _ hr5)) (AllP.cons (fun _ => cx (ok_ref13_Text n r4 _ hr6)) (AllP.cons (fun hg => cx (ok_tmpl_Names n r2.1 _ (if_t hg hr7))) (AllP.cons (fun hg => cx (ok_ref13_Names n r4 _ (if_t hg hr8))) (AllP.cons (fun hg => cx (ok_ref02_Same n r7 r8 _ (if_t hg hr9))) (AllP.cons (fun hg => cx (ok_tmpl_Deep n r2.1 _ (if_t hg hr10))) (AllP.cons (fun hg => cx (ok_ref13_Deep n r4 _ (if_t hg hr11))) (AllP.cons (fun hg => cx (ok_tmpl_Deep n r2.1 _ (if_t hg hr12))) (AllP.cons (fun hg => cx (ok_law13_awake n  _ (if_t hg hr13))) AllP.nil))))))))) ?_
      refine To.eq (K' := [(2, .val (.bool x14))]) (L' := []) (by cases hx14; rfl) (by cases hx14; rfl) ?_
      refine To.thenN ?_
      refine Wp.ret ?_
      refine To.keep (kk := [2]) (kl := []) (K' := [(2, .val (.bool x14))]) (L' := []) (by kernel_rfl) (by kernel_rfl) ?_
      cases h
      exact To.done hΓ (by kernel_rfl)
def ref13_Same_l1 (R_ref13_Same : (List (S_ref13_Part)) → (List (S_ref13_Part)) → Option (Bool)) (n : Nat) (v0 : List (S_ref13_Part)) (v1 : List (S_ref13_Part)) : Nat → Int → Option (Sum (Unit) (Bool))
  | 0, _ => none
  | k + 1, v5 => if (decide (v5 < (List.length v0 : Int))) = true then (if (decide (0 ≤ v5 ∧ v5 < (List.length v0 : Int))) = true then (if (decide (0 ≤ v5 ∧ v5 < (List.length v1 : Int))) = true then (if ((!((!((((v0)[Int.toNat v5]?.getD (S_ref13_Part.mk [] [] 0 [])).f_Name) == (((v1)[Int.toNat v5]?.getD (S_ref13_Part.mk [] [] 0 [])).f_Name))) == false) || decide (0 ≤ v5 ∧ v5 < (List.length v0 : Int)))) = true then (if ((!((!((((v0)[Int.toNat v5]?.getD (S_ref13_Part.mk [] [] 0 [])).f_Name) == (((v1)[Int.toNat v5]?.getD (S_ref13_Part.mk [] [] 0 [])).f_Name))) == false) || decide (0 ≤ v5 ∧ v5 < (List.length v1 : Int)))) = true then (if ((!((bif (!((((v0)[Int.toNat v5]?.getD (S_ref13_Part.mk [] [] 0 [])).f_Name) == (((v1)[Int.toNat v5]?.getD (S_ref13_Part.mk [] [] 0 [])).f_Name))) then true else (!((((v0)[Int.toNat v5]?.getD (S_ref13_Part.mk [] [] 0 [])).f_Text) == (((v1)[Int.toNat v5]?.getD (S_ref13_Part.mk [] [] 0 [])).f_Text)))) == false) || decide (0 ≤ v5 ∧ v5 < (List.length v0 : Int)))) = true then (if ((!((bif (!((((v0)[Int.toNat v5]?.getD (S_ref13_Part.mk [] [] 0 [])).f_Name) == (((v1)[Int.toNat v5]?.getD (S_ref13_Part.mk [] [] 0 [])).f_Name))) then true else (!((((v0)[Int.toNat v5]?.getD (S_ref13_Part.mk [] [] 0 [])).f_Text) == (((v1)[Int.toNat v5]?.getD (S_ref13_Part.mk [] [] 0 [])).f_Text)))) == false) || decide (0 ≤ v5 ∧ v5 < (List.length v1 : Int)))) = true then (if ((!((bif (bif (!((((v0)[Int.toNat v5]?.getD (S_ref13_Part.mk [] [] 0 [])).f_Name) == (((v1)[Int.toNat v5]?.getD (S_ref13_Part.mk [] [] 0 [])).f_Name))) then true else (!((((v0)[Int.toNat v5]?.getD (S_ref13_Part.mk [] [] 0 [])).f_Text) == (((v1)[Int.toNat v5]?.getD (S_ref13_Part.mk [] [] 0 [])).f_Text)))) then true else ((((v0)[Int.toNat v5]?.getD (S_ref13_Part.mk [] [] 0 [])).f_Op) != (((v1)[Int.toNat v5]?.getD (S_ref13_Part.mk [] [] 0 [])).f_Op))) == false) || decide (0 ≤ v5 ∧ v5 < (List.length v0 : Int)))) = true then (if ((!((bif (bif (!((((v0)[Int.toNat v5]?.getD (S_ref13_Part.mk [] [] 0 [])).f_Name) == (((v1)[Int.toNat v5]?.getD (S_ref13_Part.mk [] [] 0 [])).f_Name))) then true else (!((((v0)[Int.toNat v5]?.getD (S_ref13_Part.mk [] [] 0 [])).f_Text) == (((v1)[Int.toNat v5]?.getD (S_ref13_Part.mk [] [] 0 [])).f_Text)))) then true else ((((v0)[Int.toNat v5]?.getD (S_ref13_Part.mk [] [] 0 [])).f_Op) != (((v1)[Int.toNat v5]?.getD (S_ref13_Part.mk [] [] 0 [])).f_Op))) == false) || decide (0 ≤ v5 ∧ v5 < (List.length v1 : Int)))) = true then (((if ((bif (bif (!((((v0)[Int.toNat v5]?.getD (S_ref13_Part.mk [] [] 0 [])).f_Name) == (((v1)[Int.toNat v5]?.getD (S_ref13_Part.mk [] [] 0 [])).f_Name))) then true else (!((((v0)[Int.toNat v5]?.getD (S_ref13_Part.mk [] [] 0 [])).f_Text) == (((v1)[Int.toNat v5]?.getD (S_ref13_Part.mk [] [] 0 [])).f_Text)))) then true else ((((v0)[Int.toNat v5]?.getD (S_ref13_Part.mk [] [] 0 [])).f_Op) != (((v1)[Int.toNat v5]?.getD (S_ref13_Part.mk [] [] 0 [])).f_Op))) == false) = true then R_ref13_Same (((v0)[Int.toNat v5]?.getD (S_ref13_Part.mk [] [] 0 [])).f_Sub) (((v1)[Int.toNat v5]?.getD (S_ref13_Part.mk [] [] 0 [])).f_Sub) else some false)).bind fun r1 =>
  lett ((bif (bif (bif (!((((v0)[Int.toNat v5]?.getD (S_ref13_Part.mk [] [] 0 [])).f_Name) == (((v1)[Int.toNat v5]?.getD (S_ref13_Part.mk [] [] 0 [])).f_Name))) then true else (!((((v0)[Int.toNat v5]?.getD (S_ref13_Part.mk [] [] 0 [])).f_Text) == (((v1)[Int.toNat v5]?.getD (S_ref13_Part.mk [] [] 0 [])).f_Text)))) then true else ((((v0)[Int.toNat v5]?.getD (S_ref13_Part.mk [] [] 0 [])).f_Op) != (((v1)[Int.toNat v5]?.getD (S_ref13_Part.mk [] [] 0 [])).f_Op))) then true else (!r1)) : Bool) fun x2 =>
  if x2 = true then (some (.inr false))
  else (ref13_Same_l1 R_ref13_Same n v0 v1 k (IntKind.wrap .i64 (v5 + 1)))) else none) else none) else none) else none) else none) else none) else none) else none)
  else (some (.inl ()))
theorem ok_ref13_Same_l1 (R_ref13_Same : (List (S_ref13_Part)) → (List (S_ref13_Part)) → Option (Bool)) (hR_ref13_Same : ∀ (a0 : List (S_ref13_Part)) (a1 : List (S_ref13_Part)) (r : Bool), R_ref13_Same a0 a1 = some r → CallsX Tryd.prog 8 [.recs (α := S_ref13_Part) (S_ref13_Part.mk [] [] 0 []) E_ref13_Part a0, .recs (α := S_ref13_Part) (S_ref13_Part.mk [] [] 0 []) E_ref13_Part a1] (.val (.bool r))) (n : Nat) (v0 : List (S_ref13_Part)) (v1 : List (S_ref13_Part)) {F0 : Fz} {w0 : Pt Tryd.prog} {Q : Exit → Act → World → Prop} (k : Nat) : ∀ (v5 : Int) (o : Sum (Unit) (Bool)), ref13_Same_l1 R_ref13_Same n v0 v1 k v5 = some o → (Sum.elim (fun s => To 68 F0 w0 [] [] (.exit 0) Q) (fun s => To 68 F0 w0 [(4, .val (.bool s))] [] .ret Q)) o → WL Tryd.prog 68 F0 w0 [(0, .recs (α := S_ref13_Part) (S_ref13_Part.mk [] [] 0 []) E_ref13_Part v0), (1, .recs (α := S_ref13_Part) (S_ref13_Part.mk [] [] 0 []) E_ref13_Part v1), (5, .val (.int .i64 v5))] [] (cI (cI (cB (cA (cB (cB (cF Tryd.f8))))))) Q := by
  induction k with
  | zero => intro v5 o h; cases h
  | succ k ih =>
    intro v5 o h hQ
    rw [ref13_Same_l1] at h
    refine WL.round ?_
    refine Wp.seq ?_
    refine Wp.seq ?_
    refine Wp.region hΓ [] [] [] [0, 1, 5, 14] [] (K' := [(0, .recs (α := S_ref13_Part) (S_ref13_Part.mk [] [] 0 []) E_ref13_Part v0), (1, .recs (α := S_ref13_Part) (S_ref13_Part.mk [] [] 0 []) E_ref13_Part v1), (5, .val (.int .i64 v5)), (14, .val (.bool (decide (v5 < (List.length v0 : Int)))))]) (L' := []) (ob := []) (by kernel_rfl) AllP.nil ?_
    refine To.thenN ?_
    refine Wp.cond (b := (decide (v5 < (List.length v0 : Int)))) (by kernel_rfl) (fun hb => ?_) (fun hb => ?_)
    · replace h := if_t hb h
      refine Wp.skip ?_
      refine To.thenN ?_
      refine Wp.seq ?_
      refine Wp.block ?_
      refine Wp.seq ?_
      obtain ⟨hc3, h⟩ := chk_of h
      obtain ⟨hc4, h⟩ := chk_of h
      obtain ⟨hc5, h⟩ := chk_of h
      obtain ⟨hc6, h⟩ := chk_of h
      obtain ⟨hc7, h⟩ := chk_of h
      obtain ⟨hc8, h⟩ := chk_of h
      obtain ⟨hc9, h⟩ := chk_of h
      obtain ⟨hc10, h⟩ := chk_of h
      obtain ⟨r1, hr1, h⟩ := bind_of h
      obtain ⟨x2, hx2, h⟩ := lett_of h
      refine Wp.regionD hm hΓ [(48, .val (.bool r1))] [0, 1, 5, 67] [] (K' := [(0, .recs (α := S_ref13_Part) (S_ref13_Part.mk [] [] 0 []) E_ref13_Part v0), (1, .recs (α := S_ref13_Part) (S_ref13_Part.mk [] [] 0 []) E_ref13_Part v1), (5, .val (.int .i64 v5)), (67, .val (.bool (bif (bif (bif (!((((v0)[Int.toNat v5]?.getD (S_ref13_Part.mk [] [] 0 [])).f_Name) == (((v1)[Int.toNat v5]?.getD (S_ref13_Part.mk [] [] 0 [])).f_Name))) then true else (!((((v0)[Int.toNat v5]?.getD (S_ref13_Part.mk [] [] 0 [])).f_Text) == (((v1)[Int.toNat v5]?.getD (S_ref13_Part.mk [] [] 0 [])).f_Text)))) then true else ((((v0)[Int.toNat v5]?.getD (S_ref13_Part.mk [] [] 0 [])).f_Op) != (((v1)[Int.toNat v5]?.getD (S_ref13_Part.mk [] [] 0 [])).f_Op))) then true else (!r1))))]) (L' := []) (ob := [(decide (0 ≤ v5 ∧ v5 < (List.length v0 : Int))) = true, (decide (0 ≤ v5 ∧ v5 < (List.length v1 : Int))) = true, (!((!((((v0)[Int.toNat v5]?.getD (S_ref13_Part.mk [] [] 0 [])).f_Name) == (((v1)[Int.toNat v5]?.getD (S_ref13_Part.mk [] [] 0 [])).f_Name))) == false) || decide (0 ≤ v5 ∧ v5 < (List.length v0 : Int))) = true, (!((!((((v0)[Int.toNat v5]?.getD (S_ref13_Part.mk [] [] 0 [])).f_Name) == (((v1)[Int.toNat v5]?.getD (S_ref13_Part.mk [] [] 0 [])).f_Name))) == false) || decide (0 ≤ v5 ∧ v5 < (List.length v1 : Int))) = true, (!((bif (!((((v0)[Int.toNat v5]?.getD (S_ref13_Part.mk [] [] 0 [])).f_Name) == (((v1)[Int.toNat v5]?.getD (S_ref13_Part.mk [] [] 0 [])).f_Name))) then true else (!((((v0)[Int.toNat v5]?.getD (S_ref13_Part.mk [] [] 0 [])).f_Text) == (((v1)[Int.toNat v5]?.getD (S_ref13_Part.mk [] [] 0 [])).f_Text)))) == false) || decide (0 ≤ v5 ∧ v5 < (List.length v0 : Int))) = true, (!((bif (!((((v0)[Int.toNat v5]?.getD (S_ref13_Part.mk [] [] 0 [])).f_Name) == (((v1)[Int.toNat v5]?.getD (S_ref13_Part.mk [] [] 0 [])).f_Name))) then true else (!((((v0)[Int.toNat v5]?.getD (S_ref13_Part.mk [] [] 0 [])).f_Text) == (((v1)[Int.toNat v5]?.getD (S_ref13_Part.mk [] [] 0 [])).f_Text)))) == false) || decide (0 ≤ v5 ∧ v5 < (List.length v1 : Int))) = true, (!((bif (bif (!((((v0)[Int.toNat v5]?.getD (S_ref13_Part.mk [] [] 0 [])).f_Name) == (((v1)[Int.toNat v5]?.getD (S_ref13_Part.mk [] [] 0 [])).f_Name))) then true else (!((((v0)[Int.toNat v5]?.getD (S_ref13_Part.mk [] [] 0 [])).f_Text) == (((v1)[Int.toNat v5]?.getD (S_ref13_Part.mk [] [] 0 [])).f_Text)))) then true else ((((v0)[Int.toNat v5]?.getD (S_ref13_Part.mk [] [] 0 [])).f_Op) != (((v1)[Int.toNat v5]?.getD (S_ref13_Part.mk [] [] 0 [])).f_Op))) == false) || decide (0 ≤ v5 ∧ v5 < (List.length v0 : Int))) = true, (!((bif (bif (!((((v0)[Int.toNat v5]?.getD (S_ref13_Part.mk [] [] 0 [])).f_Name) == (((v1)[Int.toNat v5]?.getD (S_ref13_Part.mk [] [] 0 [])).f_Name))) then true else (!((((v0)[Int.toNat v5]?.getD (S_ref13_Part.mk [] [] 0 [])).f_Text) == (((v1)[Int.toNat v5]?.getD (S_ref13_Part.mk [] [] 0 [])).f_Text)))) then true else ((((v0)[Int.toNat v5]?.getD (S_ref13_Part.mk [] [] 0 [])).f_Op) != (((v1)[Int.toNat v5]?.getD (S_ref13_Part.mk [] [] 0 [])).f_Op))) == false) || decide (0 ≤ v5 ∧ v5 < (List.length v1 : Int))) = true, (((bif (bif (!((((v0)[Int.toNat v5]?.getD (S_ref13_Part.mk [] [] 0 [])).f_Name) == (((v1)[Int.toNat v5]?.getD (S_ref13_Part.mk [] [] 0 [])).f_Name))) then true else (!((((v0)[Int.toNat v5]?.getD (S_ref13_Part.mk [] [] 0 [])).f_Text) == (((v1)[Int.toNat v5]?.getD (S_ref13_Part.mk [] [] 0 [])).f_Text)))) then true else ((((v0)[Int.toNat v5]?.getD (S_ref13_Part.mk [] [] 0 [])).f_Op) != (((v1)[Int.toNat v5]?.getD (S_ref13_Part.mk [] [] 0 [])).f_Op))) == false) = true → CX Tryd.prog 8 [.recs (α := S_ref13_Part) (S_ref13_Part.mk [] [] 0 []) E_ref13_Part (((v0)[Int.toNat v5]?.getD (S_ref13_Part.mk [] [] 0 [])).f_Sub), .recs (α := S_ref13_Part) (S_ref13_Part.mk [] [] 0 []) E_ref13_Part (((v1)[Int.toNat v5]?.getD (S_ref13_Part.mk [] [] 0 [])).f_Sub)] (.val (.bool r1)))]) (by kernel_rfl) (AllP.cons hc3 (AllP.cons hc4 (AllP.cons hc5 (AllP.cons hc6 (AllP.cons hc7 (AllP.cons hc8 (AllP.cons hc9 (AllP.cons hc10 (AllP.cons (fun hg => cx (hR_ref13_Same (((v0)[Int.toNat v5]?.getD (S_ref13_Part.mk [] [] 0 [])).f_Sub) (((v1)[Int.toNat v5]?.getD (S_ref13_Part.mk [] [] 0 [])).f_Sub) _ (if_t hg hr1))) AllP.nil))))))))) ?_
      refine To.eq (K' := [(0, .recs (α := S_ref13_Part) (S_ref13_Part.mk [] [] 0 []) E_ref13_Part v0), (1, .recs (α := S_ref13_Part) (S_ref13_Part.mk [] [] 0 []) E_ref13_Part v1), (5, .val (.int .i64 v5)), (67, .val (.bool x2))]) (L' := []) (by cases hx2; rfl) (by cases hx2; rfl) ?_
      refine To.thenN ?_
      refine Wp.cond (b := x2) (by kernel_rfl) (fun hb => ?_) (fun hb => ?_)
      · replace h := if_t hb h
        refine Wp.seq ?_
        refine Wp.region hΓ [] [] [] [4] [] (K' := [(4, .val (.bool false))]) (L' := []) (ob := []) (by kernel_rfl) AllP.nil ?_
        refine To.thenN ?_
        refine Wp.ret ?_
        refine To.blockR ?_
        refine To.thenR ?_
        refine To.thenR ?_
        refine To.keep (kk := [4]) (kl := []) (K' := [(4, .val (.bool false))]) (L' := []) (by kernel_rfl) (by kernel_rfl) ?_
        cases h
        exact hQ
      · replace h := if_f hb h
        refine Wp.skip ?_
        refine To.blockN ?_
        refine To.thenN ?_
        refine Wp.region hΓ [] [] [] [0, 1, 5] [] (K' := [(0, .recs (α := S_ref13_Part) (S_ref13_Part.mk [] [] 0 []) E_ref13_Part v0), (1, .recs (α := S_ref13_Part) (S_ref13_Part.mk [] [] 0 []) E_ref13_Part v1), (5, .val (.int .i64 (IntKind.wrap .i64 (v5 + 1))))]) (L' := []) (ob := []) (by kernel_rfl) AllP.nil ?_
        refine To.keep (kk := [0, 1, 5]) (kl := []) (K' := [(0, .recs (α := S_ref13_Part) (S_ref13_Part.mk [] [] 0 []) E_ref13_Part v0), (1, .recs (α := S_ref13_Part) (S_ref13_Part.mk [] [] 0 []) E_ref13_Part v1), (5, .val (.int .i64 (IntKind.wrap .i64 (v5 + 1))))]) (L' := []) (by kernel_rfl) (by kernel_rfl) ?_
        refine To.again ?_
        exact ih (IntKind.wrap .i64 (v5 + 1)) _ h hQ
    · replace h := if_f hb h
      refine Wp.exit ?_
      refine To.thenX ?_
      refine To.thenX ?_
      refine To.keep (kk := []) (kl := []) (K' := []) (L' := []) (by kernel_rfl) (by kernel_rfl) ?_
      cases h
      exact hQ
def ref13_Same_b (R_ref13_Same : (List (S_ref13_Part)) → (List (S_ref13_Part)) → Option (Bool)) (n : Nat) (a0 : List (S_ref13_Part)) (a1 : List (S_ref13_Part)) : Option (Bool) :=
  if ((List.length a0 : Int) != (List.length a1 : Int)) = true then some false
  else ((ref13_Same_l1 R_ref13_Same n a0 a1 n 0).bind fun o1 =>
  (Sum.elim (fun o1 => some true) (fun o1 => some o1)) o1)
theorem ok_ref13_Same_b (R_ref13_Same : (List (S_ref13_Part)) → (List (S_ref13_Part)) → Option (Bool)) (hR_ref13_Same : ∀ (a0 : List (S_ref13_Part)) (a1 : List (S_ref13_Part)) (r : Bool), R_ref13_Same a0 a1 = some r → CallsX Tryd.prog 8 [.recs (α := S_ref13_Part) (S_ref13_Part.mk [] [] 0 []) E_ref13_Part a0, .recs (α := S_ref13_Part) (S_ref13_Part.mk [] [] 0 []) E_ref13_Part a1] (.val (.bool r))) (n : Nat) (a0 : List (S_ref13_Part)) (a1 : List (S_ref13_Part)) (r : Bool) (h : ref13_Same_b R_ref13_Same n a0 a1 = some r) : CallsX Tryd.prog 8 [.recs (α := S_ref13_Part) (S_ref13_Part.mk [] [] 0 []) E_ref13_Part a0, .recs (α := S_ref13_Part) (S_ref13_Part.mk [] [] 0 []) E_ref13_Part a1] (.val (.bool r)) := by
  unfold ref13_Same_b at h
  refine callsX_of (fn := Tryd.f8) (by kernel_rfl) rfl (by kernel_rfl) (Nat.le_of_ble_eq_true (by kernel_rfl)) fun F0 w0 _ => ?_
  refine Wp.keep (kk := [0, 1]) (kl := []) (K' := [(0, .recs (α := S_ref13_Part) (S_ref13_Part.mk [] [] 0 []) E_ref13_Part a0), (1, .recs (α := S_ref13_Part) (S_ref13_Part.mk [] [] 0 []) E_ref13_Part a1)]) (L' := []) (by kernel_rfl) (by kernel_rfl) ?_
  refine Wp.seq ?_
  refine Wp.region hΓ [] [] [] [0, 1] [] (K' := [(0, .recs (α := S_ref13_Part) (S_ref13_Part.mk [] [] 0 []) E_ref13_Part a0), (1, .recs (α := S_ref13_Part) (S_ref13_Part.mk [] [] 0 []) E_ref13_Part a1)]) (L' := []) (ob := []) (by kernel_rfl) AllP.nil ?_
  refine To.thenN ?_
  refine Wp.seq ?_
  refine Wp.seq ?_
  refine Wp.region hΓ [] [] [] [0, 1, 10] [] (K' := [(0, .recs (α := S_ref13_Part) (S_ref13_Part.mk [] [] 0 []) E_ref13_Part a0), (1, .recs (α := S_ref13_Part) (S_ref13_Part.mk [] [] 0 []) E_ref13_Part a1), (10, .val (.bool ((List.length a0 : Int) != (List.length a1 : Int))))]) (L' := []) (ob := []) (by kernel_rfl) AllP.nil ?_
  refine To.thenN ?_
  refine Wp.cond (b := ((List.length a0 : Int) != (List.length a1 : Int))) (by kernel_rfl) (fun hb => ?_) (fun hb => ?_)
  · replace h := if_t hb h
    refine Wp.seq ?_
    refine Wp.region hΓ [] [] [] [4] [] (K' := [(4, .val (.bool false))]) (L' := []) (ob := []) (by kernel_rfl) AllP.nil ?_
    refine To.thenN ?_
    refine Wp.ret ?_
    refine To.thenR ?_
    refine To.keep (kk := [4]) (kl := []) (K' := [(4, .val (.bool false))]) (L' := []) (by kernel_rfl) (by kernel_rfl) ?_
    cases h
    exact To.done hΓ (by kernel_rfl)
  · replace h := if_f hb h
    refine Wp.skip ?_
    refine To.thenN ?_
    refine Wp.seq ?_
    refine Wp.seq ?_
    refine Wp.region hΓ [] [] [] [0, 1, 5] [] (K' := [(0, .recs (α := S_ref13_Part) (S_ref13_Part.mk [] [] 0 []) E_ref13_Part a0), (1, .recs (α := S_ref13_Part) (S_ref13_Part.mk [] [] 0 []) E_ref13_Part a1), (5, .val (.int .i64 0))]) (L' := []) (ob := []) (by kernel_rfl) AllP.nil ?_
    refine To.thenN ?_
    refine Wp.block ?_
    obtain ⟨o1, ho1, h⟩ := bind_of h
    refine Wp.keep (kk := [0, 1, 5]) (kl := []) (K' := [(0, .recs (α := S_ref13_Part) (S_ref13_Part.mk [] [] 0 []) E_ref13_Part a0), (1, .recs (α := S_ref13_Part) (S_ref13_Part.mk [] [] 0 []) E_ref13_Part a1), (5, .val (.int .i64 0))]) (L' := []) (by kernel_rfl) (by kernel_rfl) ?_
    refine Wp.loopL ?_
    refine ok_ref13_Same_l1 R_ref13_Same hR_ref13_Same n a0 a1 n 0 o1 ho1 ?_
    rcases o1 with o1 | o1
    · replace h := sum_l h
      refine To.blockX ?_
      refine To.thenN ?_
      refine Wp.seq ?_
      refine Wp.region hΓ [] [] [] [4] [] (K' := [(4, .val (.bool true))]) (L' := []) (ob := []) (by kernel_rfl) AllP.nil ?_
      refine To.thenN ?_
      refine Wp.ret ?_
      refine To.keep (kk := [4]) (kl := []) (K' := [(4, .val (.bool true))]) (L' := []) (by kernel_rfl) (by kernel_rfl) ?_
      cases h
      exact To.done hΓ (by kernel_rfl)
    · replace h := sum_r h
      refine To.blockR ?_
      refine To.thenR ?_
      refine To.keep (kk := [4]) (kl := []) (K' := [(4, .val (.bool o1))]) (L' := []) (by kernel_rfl) (by kernel_rfl) ?_
      cases h
      exact To.done hΓ (by kernel_rfl)
def ref13_Same : Nat → (List (S_ref13_Part)) → (List (S_ref13_Part)) → Option (Bool)
  | 0 => fun _ _ => none
  | n + 1 => ref13_Same_b (ref13_Same n) n
theorem ok_ref13_Same (n : Nat) : ∀ (a0 : List (S_ref13_Part)) (a1 : List (S_ref13_Part)) (r : Bool), ref13_Same n a0 a1 = some r → CallsX Tryd.prog 8 [.recs (α := S_ref13_Part) (S_ref13_Part.mk [] [] 0 []) E_ref13_Part a0, .recs (α := S_ref13_Part) (S_ref13_Part.mk [] [] 0 []) E_ref13_Part a1] (.val (.bool r)) := by
  induction n with
  | zero => intro a0 a1 r h; cases h
  | succ n ih => exact fun a0 a1 r h => ok_ref13_Same_b (ref13_Same n) ih n a0 a1 r h
def law13_TmplBack_j2 (n : Nat) (v0 : List UInt8) (v1 : List UInt8) (v5 : List (S_tmpl_Part)) (v7 : List UInt8) (v10 : Int) (v11 : Int) : Option (Int) :=
  if (decide (0 ≤ v11 ∧ v11 < (List.length v0 : Int))) = true then (if ((((v0)[Int.toNat v11]?.getD 0).toNat : Int) == 36) = true then (some (IntKind.wrap .i64 (v10 + 1)))
  else some v10) else none
theorem ok_law13_TmplBack_j2 (n : Nat) (v0 : List UInt8) (v1 : List UInt8) (v5 : List (S_tmpl_Part)) (v7 : List UInt8) (v10 : Int) (v11 : Int) (o : Int) (h : law13_TmplBack_j2 n v0 v1 v5 v7 v10 v11 = some o) {F0 : Fz} {w0 : Pt Tryd.prog} {Q : Exit → Act → World → Prop} (hQ : To 124 F0 w0 [(0, .str v0), (1, .str v1), (5, .recs (α := S_tmpl_Part) (S_tmpl_Part.mk [] [] 0 []) E_tmpl_Part v5), (7, .str v7), (10, .val (.int .i64 o)), (11, .val (.int .i64 v11))] [] .normal Q) : Wp Tryd.prog 124 F0 w0 [(0, .str v0), (1, .str v1), (5, .recs (α := S_tmpl_Part) (S_tmpl_Part.mk [] [] 0 []) E_tmpl_Part v5), (7, .str v7), (10, .val (.int .i64 v10)), (11, .val (.int .i64 v11))] [] (cA (cB (cI (cI (cB (cA (cB (cB (cB (cB (cB (cB (cB (cB (cF Tryd.f3))))))))))))))) Q := by
  unfold law13_TmplBack_j2 at h
  refine Wp.block ?_
  refine Wp.seq ?_
  obtain ⟨hc9, h⟩ := chk_of h
  refine Wp.region hΓ [] [] [] [0, 1, 5, 7, 10, 11, 59] [] (K' := [(0, .str v0), (1, .str v1), (5, .recs (α := S_tmpl_Part) (S_tmpl_Part.mk [] [] 0 []) E_tmpl_Part v5), (7, .str v7), (10, .val (.int .i64 v10)), (11, .val (.int .i64 v11)), (59, .val (.bool ((((v0)[Int.toNat v11]?.getD 0).toNat : Int) == 36)))]) (L' := []) (ob := [(decide (0 ≤ v11 ∧ v11 < (List.length v0 : Int))) = true]) (by kernel_rfl) (AllP.cons hc9 AllP.nil) ?_
  refine To.thenN ?_
  refine Wp.cond (b := ((((v0)[Int.toNat v11]?.getD 0).toNat : Int) == 36)) (by kernel_rfl) (fun hb => ?_) (fun hb => ?_)
  · replace h := if_t hb h
    refine Wp.region hΓ [] [] [] [0, 1, 5, 7, 10, 11] [] (K' := [(0, .str v0), (1, .str v1), (5, .recs (α := S_tmpl_Part) (S_tmpl_Part.mk [] [] 0 []) E_tmpl_Part v5), (7, .str v7), (10, .val (.int .i64 (IntKind.wrap .i64 (v10 + 1)))), (11, .val (.int .i64 v11))]) (L' := []) (ob := []) (by kernel_rfl) AllP.nil ?_
    refine To.blockN ?_
    refine To.keep (kk := [0, 1, 5, 7, 10, 11]) (kl := []) (K' := [(0, .str v0), (1, .str v1), (5, .recs (α := S_tmpl_Part) (S_tmpl_Part.mk [] [] 0 []) E_tmpl_Part v5), (7, .str v7), (10, .val (.int .i64 (IntKind.wrap .i64 (v10 + 1)))), (11, .val (.int .i64 v11))]) (L' := []) (by kernel_rfl) (by kernel_rfl) ?_
    cases h
    exact hQ
  · replace h := if_f hb h
    refine Wp.skip ?_
    refine To.blockN ?_
    refine To.keep (kk := [0, 1, 5, 7, 10, 11]) (kl := []) (K' := [(0, .str v0), (1, .str v1), (5, .recs (α := S_tmpl_Part) (S_tmpl_Part.mk [] [] 0 []) E_tmpl_Part v5), (7, .str v7), (10, .val (.int .i64 v10)), (11, .val (.int .i64 v11))]) (L' := []) (by kernel_rfl) (by kernel_rfl) ?_
    cases h
    exact hQ
def law13_TmplBack_l1 (n : Nat) (v0 : List UInt8) (v1 : List UInt8) (v5 : List (S_tmpl_Part)) (v7 : List UInt8) : Nat → Int → Int → Option (Int)
  | 0, _, _ => none
  | k + 1, v10, v11 => if (decide (v11 < (List.length v0 : Int))) = true then ((law13_TmplBack_j2 n v0 v1 v5 v7 v10 v11).bind fun o9 =>
  law13_TmplBack_l1 n v0 v1 v5 v7 k o9 (IntKind.wrap .i64 (v11 + 1)))
  else some v10
theorem ok_law13_TmplBack_l1 (n : Nat) (v0 : List UInt8) (v1 : List UInt8) (v5 : List (S_tmpl_Part)) (v7 : List UInt8) {F0 : Fz} {w0 : Pt Tryd.prog} {Q : Exit → Act → World → Prop} (k : Nat) : ∀ (v10 : Int) (v11 : Int) (o : Int), law13_TmplBack_l1 n v0 v1 v5 v7 k v10 v11 = some o → To 124 F0 w0 [(0, .str v0), (1, .str v1), (5, .recs (α := S_tmpl_Part) (S_tmpl_Part.mk [] [] 0 []) E_tmpl_Part v5), (7, .str v7), (10, .val (.int .i64 o))] [] (.exit 0) Q → WL Tryd.prog 124 F0 w0 [(0, .str v0), (1, .str v1), (5, .recs (α := S_tmpl_Part) (S_tmpl_Part.mk [] [] 0 []) E_tmpl_Part v5), (7, .str v7), (10, .val (.int .i64 v10)), (11, .val (.int .i64 v11))] [] (cI (cI (cB (cA (cB (cB (cB (cB (cB (cB (cB (cB (cF Tryd.f3))))))))))))) Q := by
  induction k with
  | zero => intro v10 v11 o h; cases h
  | succ k ih =>
    intro v10 v11 o h hQ
    rw [law13_TmplBack_l1] at h
    refine WL.round ?_
    refine Wp.seq ?_
    refine Wp.seq ?_
    refine Wp.region hΓ [] [] [] [0, 1, 5, 7, 10, 11, 53] [] (K' := [(0, .str v0), (1, .str v1), (5, .recs (α := S_tmpl_Part) (S_tmpl_Part.mk [] [] 0 []) E_tmpl_Part v5), (7, .str v7), (10, .val (.int .i64 v10)), (11, .val (.int .i64 v11)), (53, .val (.bool (decide (v11 < (List.length v0 : Int)))))]) (L' := []) (ob := []) (by kernel_rfl) AllP.nil ?_
    refine To.thenN ?_
    refine Wp.cond (b := (decide (v11 < (List.length v0 : Int)))) (by kernel_rfl) (fun hb => ?_) (fun hb => ?_)
    · replace h := if_t hb h
      refine Wp.skip ?_
      refine To.thenN ?_
      refine Wp.seq ?_
      obtain ⟨o9, ho9, h⟩ := bind_of h
      refine Wp.keep (kk := [0, 1, 5, 7, 10, 11]) (kl := []) (K' := [(0, .str v0), (1, .str v1), (5, .recs (α := S_tmpl_Part) (S_tmpl_Part.mk [] [] 0 []) E_tmpl_Part v5), (7, .str v7), (10, .val (.int .i64 v10)), (11, .val (.int .i64 v11))]) (L' := []) (by kernel_rfl) (by kernel_rfl) ?_
      refine ok_law13_TmplBack_j2 n v0 v1 v5 v7 v10 v11 o9 ho9 ?_
      refine To.thenN ?_
      refine Wp.region hΓ [] [] [] [0, 1, 5, 7, 10, 11] [] (K' := [(0, .str v0), (1, .str v1), (5, .recs (α := S_tmpl_Part) (S_tmpl_Part.mk [] [] 0 []) E_tmpl_Part v5), (7, .str v7), (10, .val (.int .i64 o9)), (11, .val (.int .i64 (IntKind.wrap .i64 (v11 + 1))))]) (L' := []) (ob := []) (by kernel_rfl) AllP.nil ?_
      refine To.keep (kk := [0, 1, 5, 7, 10, 11]) (kl := []) (K' := [(0, .str v0), (1, .str v1), (5, .recs (α := S_tmpl_Part) (S_tmpl_Part.mk [] [] 0 []) E_tmpl_Part v5), (7, .str v7), (10, .val (.int .i64 o9)), (11, .val (.int .i64 (IntKind.wrap .i64 (v11 + 1))))]) (L' := []) (by kernel_rfl) (by kernel_rfl) ?_
      refine To.again ?_
      exact ih o9 (IntKind.wrap .i64 (v11 + 1)) _ h hQ
    · replace h := if_f hb h
      refine Wp.exit ?_
      refine To.thenX ?_
      refine To.thenX ?_
      refine To.keep (kk := [0, 1, 5, 7, 10]) (kl := []) (K' := [(0, .str v0), (1, .str v1), (5, .recs (α := S_tmpl_Part) (S_tmpl_Part.mk [] [] 0 []) E_tmpl_Part v5), (7, .str v7), (10, .val (.int .i64 v10))]) (L' := []) (by kernel_rfl) (by kernel_rfl) ?_
      cases h
      exact hQ
def law13_TmplBack (n : Nat) (a0 : List UInt8) (a1 : List UInt8) : Option (Bool) :=
  if (bif (decide ((List.length a0 : Int) > 2000)) then true else (decide ((List.length a1 : Int) > 2000))) = true then ((law13_awake n).bind fun r1 =>
  some r1)
  else ((tmpl_Parse n a0).bind fun r2 =>
  if (r2.2 != 0) = true then ((law13_awake n).bind fun r3 =>
  some r3)
  else ((tmpl_Text n r2.1).bind fun r4 =>
  (tmpl_Parse n r4).bind fun r5 =>
  ((if ((r5.2 != 0) == false) = true then law13_taken n r2.1 else some [])).bind fun r6 =>
  ((if ((r5.2 != 0) == false) = true then law13_taken n r5.1 else some [])).bind fun r7 =>
  ((if ((r5.2 != 0) == false) = true then ref13_Same n r6 r7 else some false)).bind fun r8 =>
  if (bif (r5.2 != 0) then true else (!r8)) = true then some false
  else ((law13_TmplBack_l1 n a0 a1 r2.1 r4 n 0 0).bind fun o9 =>
  if ((!((((List.length r2.1 : Int) != 1) == false) && (((decide ((List.length a0 : Int) > 0)) == true) && (((decide ((List.length r2.1 : Int) > 1)) == false) && ((o9 == 0) == true)))) || decide (0 ≤ (0 : Int) ∧ (0 : Int) < (List.length r2.1 : Int)))) = true then (if ((!(((bif ((List.length r2.1 : Int) != 1) then true else (!((((r2.1)[Int.toNat 0]?.getD (S_tmpl_Part.mk [] [] 0 [])).f_Text) == a0))) == false) && (((decide ((List.length a0 : Int) > 0)) == true) && (((decide ((List.length r2.1 : Int) > 1)) == false) && ((o9 == 0) == true)))) || decide (0 ≤ (0 : Int) ∧ (0 : Int) < (List.length r2.1 : Int)))) = true then (lett ((bif (o9 == 0) then (bif (decide ((List.length r2.1 : Int) > 1)) then true else (bif (decide ((List.length a0 : Int) > 0)) then (bif (bif ((List.length r2.1 : Int) != 1) then true else (!((((r2.1)[Int.toNat 0]?.getD (S_tmpl_Part.mk [] [] 0 [])).f_Text) == a0))) then true else ((((r2.1)[Int.toNat 0]?.getD (S_tmpl_Part.mk [] [] 0 [])).f_Op) != 0)) else false)) else false) : Bool) fun x10 =>
  if x10 = true then some false
  else ((tmpl_Parse n a1).bind fun r11 =>
  (tmpl_Text n r11.1).bind fun r12 =>
  if (decide (((List.length r4 + List.length r12 : Nat) : Int) ≤ 9223372036854775807)) = true then ((tmpl_Parse n (r4 ++ r12)).bind fun r13 =>
  if (r11.2 != 0) = true then ((law13_awake n).bind fun r14 =>
  some r14)
  else (((if ((r13.2 == 0) == true) = true then tmpl_Text n r13.1 else some [])).bind fun r15 =>
  ((if ((r13.2 == 0) == true) = true then tmpl_Text n r11.1 else some [])).bind fun r16 =>
  if ((!((r13.2 == 0) == true) || decide (((List.length r4 + List.length r16 : Nat) : Int) ≤ 9223372036854775807))) = true then (((if ((bif (r13.2 == 0) then (r15 == (r4 ++ r16)) else false) == true) = true then law13_awake n else some false)).bind fun r17 =>
  some (bif (bif (r13.2 == 0) then (r15 == (r4 ++ r16)) else false) then r17 else false)) else none)) else none)) else none) else none)))
end Go.Proofs.YtljnmojkhajolaaDoor.M