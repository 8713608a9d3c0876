/-
  Printed by wip/tools/gen.py: models and walks of functions.
-/
import Derived.Test.YtljnmojkhajolaaDoorM13b
namespace Go.Proofs.YtljnmojkhajolaaDoor.M
open Go.RowKit Go.Proofs.YtljnmojkhajolaaDoor.RX
set_option maxRecDepth 100000
theorem ok_law13_TmplBack (n : Nat) (a0 : List UInt8) (a1 : List UInt8) (r : Bool) (h : law13_TmplBack n a0 a1 = some r) : CallsX Tryd.prog 3 [.str a0, .str a1] (.val (.bool r)) := by
  unfold law13_TmplBack at h
  refine callsX_of (fn := Tryd.f3) (by kernel_rfl) rfl (by kernel_rfl) (Nat.le_of_ble_eq_true (by kernel_rfl)) fun F0 w0 _ => ?_
  refine Wp.keep (kk := [0, 1]) (kl := []) (K' := [(0, .str a0), (1, .str a1)]) (L' := []) (by kernel_rfl) (by kernel_rfl) ?_
  refine Wp.seq ?_
  refine Wp.region hΓ [] [] [] [0, 1] [] (K' := [(0, .str a0), (1, .str a1)]) (L' := []) (ob := []) (by kernel_rfl) AllP.nil ?_
  refine To.thenN ?_
  refine Wp.seq ?_
  refine Wp.seq ?_
  refine Wp.region hΓ [] [] [] [0, 1, 23] [] (K' := [(0, .str a0), (1, .str a1), (23, .val (.bool (bif (decide ((List.length a0 : Int) > 2000)) then true else (decide ((List.length a1 : Int) > 2000)))))]) (L' := []) (ob := []) (by kernel_rfl) AllP.nil ?_
  refine To.thenN ?_
  refine Wp.cond (b := (bif (decide ((List.length a0 : Int) > 2000)) then true else (decide ((List.length a1 : Int) > 2000)))) (by kernel_rfl) (fun hb => ?_) (fun hb => ?_)
  · replace h := if_t hb h
    refine Wp.seq ?_
    obtain ⟨r1, hr1, h⟩ := bind_of h
    refine Wp.region hΓ [] [(0, .val (.bool r1))] [] [4] [] (K' := [(4, .val (.bool r1))]) (L' := []) (ob := [(true = true → CX Tryd.prog 5 [] (.val (.bool r1)))]) (by kernel_rfl) (AllP.cons (fun _ => cx (ok_law13_awake n  _ hr1)) AllP.nil) ?_
    refine To.thenN ?_
    refine Wp.ret ?_
    refine To.thenR ?_
    refine To.keep (kk := [4]) (kl := []) (K' := [(4, .val (.bool r1))]) (L' := []) (by kernel_rfl) (by kernel_rfl) ?_
    cases h
    exact To.done hΓ (by kernel_rfl)
  · replace h := if_f hb h
    refine Wp.skip ?_
    refine To.thenN ?_
    refine Wp.seq ?_
    obtain ⟨r2, hr2, h⟩ := bind_of h
    refine Wp.region hΓ [] [(1, .tup [.recs (α := S_tmpl_Part) (S_tmpl_Part.mk [] [] 0 []) E_tmpl_Part r2.1, .val (.int .i64 r2.2)])] [] [0, 1, 5, 6] [] (K' := [(0, .str a0), (1, .str a1), (5, .recs (α := S_tmpl_Part) (S_tmpl_Part.mk [] [] 0 []) E_tmpl_Part r2.1), (6, .val (.int .i64 r2.2))]) (L' := []) (ob := [(true = true → CX Tryd.prog 6 [.str a0] (.tup [.recs (α := S_tmpl_Part) (S_tmpl_Part.mk [] [] 0 []) E_tmpl_Part r2.1, .val (.int .i64 r2.2)]))]) (by kernel_rfl) (AllP.cons (fun _ => cx (ok_tmpl_Parse n a0 _ hr2)) AllP.nil) ?_
    refine To.thenN ?_
    refine Wp.seq ?_
    refine Wp.seq ?_
    refine Wp.region hΓ [] [] [] [0, 1, 5, 31] [] (K' := [(0, .str a0), (1, .str a1), (5, .recs (α := S_tmpl_Part) (S_tmpl_Part.mk [] [] 0 []) E_tmpl_Part r2.1), (31, .val (.bool (r2.2 != 0)))]) (L' := []) (ob := []) (by kernel_rfl) AllP.nil ?_
    refine To.thenN ?_
    refine Wp.cond (b := (r2.2 != 0)) (by kernel_rfl) (fun hb => ?_) (fun hb => ?_)
    · replace h := if_t hb h
      refine Wp.seq ?_
      obtain ⟨r3, hr3, h⟩ := bind_of h
      refine Wp.region hΓ [] [(0, .val (.bool r3))] [] [4] [] (K' := [(4, .val (.bool r3))]) (L' := []) (ob := [(true = true → CX Tryd.prog 5 [] (.val (.bool r3)))]) (by kernel_rfl) (AllP.cons (fun _ => cx (ok_law13_awake n  _ hr3)) AllP.nil) ?_
      refine To.thenN ?_
      refine Wp.ret ?_
      refine To.thenR ?_
      refine To.keep (kk := [4]) (kl := []) (K' := [(4, .val (.bool r3))]) (L' := []) (by kernel_rfl) (by kernel_rfl) ?_
      cases h
      exact To.done hΓ (by kernel_rfl)
    · replace h := if_f hb h
      refine Wp.skip ?_
      refine To.thenN ?_
      refine Wp.seq ?_
      obtain ⟨r4, hr4, h⟩ := bind_of h
      refine Wp.region hΓ [] [(1, .str r4)] [] [0, 1, 5, 7] [] (K' := [(0, .str a0), (1, .str a1), (5, .recs (α := S_tmpl_Part) (S_tmpl_Part.mk [] [] 0 []) E_tmpl_Part r2.1), (7, .str r4)]) (L' := []) (ob := [(true = true → CX Tryd.prog 7 [.recs (α := S_tmpl_Part) (S_tmpl_Part.mk [] [] 0 []) E_tmpl_Part r2.1] (.str r4))]) (by kernel_rfl) (AllP.cons (fun _ => cx (ok_tmpl_Text n r2.1 _ hr4)) AllP.nil) ?_
      refine To.thenN ?_
      refine Wp.seq ?_
      obtain ⟨r5, hr5, h⟩ := bind_of h
      refine Wp.region hΓ [] [(1, .tup [.recs (α := S_tmpl_Part) (S_tmpl_Part.mk [] [] 0 []) E_tmpl_Part r5.1, .val (.int .i64 r5.2)])] [] [0, 1, 5, 7, 8, 9] [] (K' := [(0, .str a0), (1, .str a1), (5, .recs (α := S_tmpl_Part) (S_tmpl_Part.mk [] [] 0 []) E_tmpl_Part r2.1), (7, .str r4), (8, .recs (α := S_tmpl_Part) (S_tmpl_Part.mk [] [] 0 []) E_tmpl_Part r5.1), (9, .val (.int .i64 r5.2))]) (L' := []) (ob := [(true = true → CX Tryd.prog 6 [.str r4] (.tup [.recs (α := S_tmpl_Part) (S_tmpl_Part.mk [] [] 0 []) E_tmpl_Part r5.1, .val (.int .i64 r5.2)]))]) (by kernel_rfl) (AllP.cons (fun _ => cx (ok_tmpl_Parse n r4 _ hr5)) AllP.nil) ?_
      refine To.thenN ?_
      refine Wp.seq ?_
      refine Wp.seq ?_
      obtain ⟨r6, hr6, h⟩ := bind_of h
      obtain ⟨r7, hr7, h⟩ := bind_of h
      obtain ⟨r8, hr8, h⟩ := bind_of h
      refine Wp.region hΓ [] [(4, .recs (α := S_ref13_Part) (S_ref13_Part.mk [] [] 0 []) E_ref13_Part r6), (6, .recs (α := S_ref13_Part) (S_ref13_Part.mk [] [] 0 []) E_ref13_Part r7), (7, .val (.bool r8))] [] [0, 1, 5, 7, 49] [] (K' := [(0, .str a0), (1, .str a1), (5, .recs (α := S_tmpl_Part) (S_tmpl_Part.mk [] [] 0 []) E_tmpl_Part r2.1), (7, .str r4), (49, .val (.bool (bif (r5.2 != 0) then true else (!r8))))]) (L' := []) (ob := [(((r5.2 != 0) == false) = true → CX Tryd.prog 9 [.recs (α := S_tmpl_Part) (S_tmpl_Part.mk [] [] 0 []) E_tmpl_Part r2.1] (.recs (α := S_ref13_Part) (S_ref13_Part.mk [] [] 0 []) E_ref13_Part r6)), (((r5.2 != 0) == false) = true → CX Tryd.prog 9 [.recs (α := S_tmpl_Part) (S_tmpl_Part.mk [] [] 0 []) E_tmpl_Part r5.1] (.recs (α := S_ref13_Part) (S_ref13_Part.mk [] [] 0 []) E_ref13_Part r7)), (((r5.2 != 0) == false) = true → CX Tryd.prog 8 [.recs (α := S_ref13_Part) (S_ref13_Part.mk [] [] 0 []) E_ref13_Part r6, .recs (α := S_ref13_Part) (S_ref13_Part.mk [] [] 0 []) E_ref13_Part r7] (.val (.bool r8)))]) (by kernel_rfl) (AllP.cons (fun hg => cx (ok_law13_taken n r2.1 _ (if_t hg hr6))) (AllP.cons (fun hg => cx (ok_law13_taken n r5.1 _ (if_t hg hr7))) (AllP.cons (fun hg => cx (ok_ref13_Same n r6 r7 _ (if_t hg hr8))) AllP.nil))) ?_
      refine To.thenN ?_
      refine Wp.cond (b := (bif (r5.2 != 0) then true else (!r8))) (by kernel_rfl) (fun hb => ?_) (fun hb => ?_)
      · replace h := if_t hb h
        refine Wp.seq ?_
        refine Wp.region hΓ [] [] [] [4] [] (K' := [(4, .val (.bool false))]) (L' := []) (ob := []) (by kernel_rfl) AllP.nil ?_
        refine To.thenN ?_
        refine Wp.ret ?_
        refine To.thenR ?_
        refine To.keep (kk := [4]) (kl := []) (K' := [(4, .val (.bool false))]) (L' := []) (by kernel_rfl) (by kernel_rfl) ?_
        cases h
        exact To.done hΓ (by kernel_rfl)
      · replace h := if_f hb h
        refine Wp.skip ?_
        refine To.thenN ?_
        refine Wp.seq ?_
        refine Wp.region hΓ [] [] [] [0, 1, 5, 7, 10] [] (K' := [(0, .str a0), (1, .str a1), (5, .recs (α := S_tmpl_Part) (S_tmpl_Part.mk [] [] 0 []) E_tmpl_Part r2.1), (7, .str r4), (10, .val (.int .i64 0))]) (L' := []) (ob := []) (by kernel_rfl) AllP.nil ?_
        refine To.thenN ?_
        refine Wp.seq ?_
        refine Wp.seq ?_
        refine Wp.region hΓ [] [] [] [0, 1, 5, 7, 10, 11] [] (K' := [(0, .str a0), (1, .str a1), (5, .recs (α := S_tmpl_Part) (S_tmpl_Part.mk [] [] 0 []) E_tmpl_Part r2.1), (7, .str r4), (10, .val (.int .i64 0)), (11, .val (.int .i64 0))]) (L' := []) (ob := []) (by kernel_rfl) AllP.nil ?_
        refine To.thenN ?_
        refine Wp.block ?_
        obtain ⟨o9, ho9, h⟩ := bind_of h
        refine Wp.keep (kk := [0, 1, 5, 7, 10, 11]) (kl := []) (K' := [(0, .str a0), (1, .str a1), (5, .recs (α := S_tmpl_Part) (S_tmpl_Part.mk [] [] 0 []) E_tmpl_Part r2.1), (7, .str r4), (10, .val (.int .i64 0)), (11, .val (.int .i64 0))]) (L' := []) (by kernel_rfl) (by kernel_rfl) ?_
        refine Wp.loopL ?_
        refine ok_law13_TmplBack_l1 n a0 a1 r2.1 r4 n 0 0 o9 ho9 ?_
        refine To.blockX ?_
        refine To.thenN ?_
        refine Wp.seq ?_
        refine Wp.seq ?_
        obtain ⟨hc20, h⟩ := chk_of h
        obtain ⟨hc21, h⟩ := chk_of h
        obtain ⟨x10, hx10, h⟩ := lett_of h
        refine Wp.region hΓ [] [] [] [1, 7, 93] [] (K' := [(1, .str a1), (7, .str r4), (93, .val (.bool (bif (o9 == 0) then (bif (decide ((List.length r2.1 : Int) > 1)) then true else (bif (decide ((List.length a0 : Int) > 0)) then (bif (bif ((List.length r2.1 : Int) != 1) then true else (!((((r2.1)[Int.toNat 0]?.getD (S_tmpl_Part.mk [] [] 0 [])).f_Text) == a0))) then true else ((((r2.1)[Int.toNat 0]?.getD (S_tmpl_Part.mk [] [] 0 [])).f_Op) != 0)) else false)) else false)))]) (L' := []) (ob := [(!((((List.length r2.1 : Int) != 1) == false) && (((decide ((List.length a0 : Int) > 0)) == true) && (((decide ((List.length r2.1 : Int) > 1)) == false) && ((o9 == 0) == true)))) || decide (0 ≤ (0 : Int) ∧ (0 : Int) < (List.length r2.1 : Int))) = true, (!(((bif ((List.length r2.1 : Int) != 1) then true else (!((((r2.1)[Int.toNat 0]?.getD (S_tmpl_Part.mk [] [] 0 [])).f_Text) == a0))) == false) && (((decide ((List.length a0 : Int) > 0)) == true) && (((decide ((List.length r2.1 : Int) > 1)) == false) && ((o9 == 0) == true)))) || decide (0 ≤ (0 : Int) ∧ (0 : Int) < (List.length r2.1 : Int))) = true]) (by kernel_rfl) (AllP.cons hc20 (AllP.cons hc21 AllP.nil)) ?_
        refine To.eq (K' := [(1, .str a1), (7, .str r4), (93, .val (.bool x10))]) (L' := []) (by cases hx10; rfl) (by cases hx10; rfl) ?_
        refine To.thenN ?_
        refine Wp.cond (b := x10) (by kernel_rfl) (fun hb => ?_) (fun hb => ?_)
        · replace h := if_t hb h
          refine Wp.seq ?_
          refine Wp.region hΓ [] [] [] [4] [] (K' := [(4, .val (.bool false))]) (L' := []) (ob := []) (by kernel_rfl) AllP.nil ?_
          refine To.thenN ?_
          refine Wp.ret ?_
          refine To.thenR ?_
          refine To.keep (kk := [4]) (kl := []) (K' := [(4, .val (.bool false))]) (L' := []) (by kernel_rfl) (by kernel_rfl) ?_
          cases h
          exact To.done hΓ (by kernel_rfl)
        · replace h := if_f hb h
          refine Wp.skip ?_
          refine To.thenN ?_
          refine Wp.seq ?_
          obtain ⟨r11, hr11, h⟩ := bind_of h
          refine Wp.region hΓ [] [(1, .tup [.recs (α := S_tmpl_Part) (S_tmpl_Part.mk [] [] 0 []) E_tmpl_Part r11.1, .val (.int .i64 r11.2)])] [] [7, 12, 13] [] (K' := [(7, .str r4), (12, .recs (α := S_tmpl_Part) (S_tmpl_Part.mk [] [] 0 []) E_tmpl_Part r11.1), (13, .val (.int .i64 r11.2))]) (L' := []) (ob := [(true = true → CX Tryd.prog 6 [.str a1] (.tup [.recs (α := S_tmpl_Part) (S_tmpl_Part.mk [] [] 0 []) E_tmpl_Part r11.1, .val (.int .i64 r11.2)]))]) (by kernel_rfl) (AllP.cons (fun _ => cx (ok_tmpl_Parse n a1 _ hr11)) AllP.nil) ?_
          refine To.thenN ?_
          refine Wp.seq ?_
          obtain ⟨r12, hr12, h⟩ := bind_of h
          obtain ⟨hc19, h⟩ := chk_of h
          obtain ⟨r13, hr13, h⟩ := bind_of h
          refine Wp.region hΓ [] [(2, .str r12), (4, .tup [.recs (α := S_tmpl_Part) (S_tmpl_Part.mk [] [] 0 []) E_tmpl_Part r13.1, .val (.int .i64 r13.2)])] [] [7, 12, 13, 14, 15] [] (K' := [(7, .str r4), (12, .recs (α := S_tmpl_Part) (S_tmpl_Part.mk [] [] 0 []) E_tmpl_Part r11.1), (13, .val (.int .i64 r11.2)), (14, .recs (α := S_tmpl_Part) (S_tmpl_Part.mk [] [] 0 []) E_tmpl_Part r13.1), (15, .val (.int .i64 r13.2))]) (L' := []) (ob := [(true = true → CX Tryd.prog 7 [.recs (α := S_tmpl_Part) (S_tmpl_Part.mk [] [] 0 []) E_tmpl_Part r11.1] (.str r12)), (decide (((List.length r4 + List.length r12 : Nat) : Int) ≤ 9223372036854775807)) = true, (true = true → CX Tryd.prog 6 [.str (r4 ++ r12)] (.tup [.recs (α := S_tmpl_Part) (S_tmpl_Part.mk [] [] 0 []) E_tmpl_Part r13.1, .val (.int .i64 r13.2)]))]) (by kernel_rfl) (AllP.cons (fun _ => cx (ok_tmpl_Text n r11.1 _ hr12)) (AllP.cons hc19 (AllP.cons (fun _ => cx (ok_tmpl_Parse n (r4 ++ r12) _ hr13)) AllP.nil))) ?_
          refine To.thenN ?_
          refine Wp.seq ?_
          refine Wp.seq ?_
          refine Wp.region hΓ [] [] [] [7, 12, 14, 15, 108] [] (K' := [(7, .str r4), (12, .recs (α := S_tmpl_Part) (S_tmpl_Part.mk [] [] 0 []) E_tmpl_Part r11.1), (14, .recs (α := S_tmpl_Part) (S_tmpl_Part.mk [] [] 0 []) E_tmpl_Part r13.1), (15, .val (.int .i64 r13.2)), (108, .val (.bool (r11.2 != 0)))]) (L' := []) (ob := []) (by kernel_rfl) AllP.nil ?_
          refine To.thenN ?_
          refine Wp.cond (b := (r11.2 != 0)) (by kernel_rfl) (fun hb => ?_) (fun hb => ?_)
          · replace h := if_t hb h
            refine Wp.seq ?_
            obtain ⟨r14, hr14, h⟩ := bind_of h
            refine Wp.region hΓ [] [(0, .val (.bool r14))] [] [4] [] (K' := [(4, .val (.bool r14))]) (L' := []) (ob := [(true = true → CX Tryd.prog 5 [] (.val (.bool r14)))]) (by kernel_rfl) (AllP.cons (fun _ => cx (ok_law13_awake n  _ hr14)) AllP.nil) ?_
            refine To.thenN ?_
            refine Wp.ret ?_
            refine To.thenR ?_
            refine To.keep (kk := [4]) (kl := []) (K' := [(4, .val (.bool r14))]) (L' := []) (by kernel_rfl) (by kernel_rfl) ?_
            cases h
            exact To.done hΓ (by kernel_rfl)
          · replace h := if_f hb h
            refine Wp.skip ?_
            refine To.thenN ?_
            refine Wp.seq ?_
            obtain ⟨r15, hr15, h⟩ := bind_of h
            obtain ⟨r16, hr16, h⟩ := bind_of h
            obtain ⟨hc18, h⟩ := chk_of h
            obtain ⟨r17, hr17, h⟩ := bind_of h
            refine Wp.region hΓ [] [(4, .str r15), (7, .str r16), (12, .val (.bool r17))] [] [4] [] (K' := [(4, .val (.bool (bif (bif (r13.2 == 0) then (r15 == (r4 ++ r16)) else false) then r17 else false)))]) (L' := []) (ob := [(((r13.2 == 0) == true) = true → CX Tryd.prog 7 [.recs (α := S_tmpl_Part) (S_tmpl_Part.mk [] [] 0 []) E_tmpl_Part r13.1] (.str r15)), (((r13.2 == 0) == true) = true → CX Tryd.prog 7 [.recs (α := S_tmpl_Part) (S_tmpl_Part.mk [] [] 0 []) E_tmpl_Part r11.1] (.str r16)), (!((r13.2 == 0) == true) || decide (((List.length r4 + List.length r16 : Nat) : Int) ≤ 9223372036854775807)) = true, (((bif (r13.2 == 0) then (r15 == (r4 ++ r16)) else false) == true) = true → CX Tryd.prog 5 [] (.val (.bool r17)))]) (by kernel_rfl) (AllP.cons (fun hg => cx (ok_tmpl_Text n r13.1 _ (if_t hg hr15))) (AllP.cons (fun hg => cx (ok_tmpl_Text n r11.1 _ (if_t hg hr16))) (AllP.cons hc18 (AllP.cons (fun hg => cx (ok_law13_awake n  _ (if_t hg hr17))) AllP.nil)))) ?_
            refine To.thenN ?_
            refine Wp.ret ?_
            refine To.keep (kk := [4]) (kl := []) (K' := [(4, .val (.bool (bif (bif (r13.2 == 0) then (r15 == (r4 ++ r16)) else false) then r17 else false)))]) (L' := []) (by kernel_rfl) (by kernel_rfl) ?_
            cases h
            exact To.done hΓ (by kernel_rfl)
theorem opens_string : Opens Tryd.prog 9 (fun l : List UInt8 => l.length ≤ maxLen) (fun l => [.str l]) := opens_str (by kernel_rfl)
end Go.Proofs.YtljnmojkhajolaaDoor.M