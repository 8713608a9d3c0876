/-
  Part of the proof of PortLists: M16L.
-/
import Derived.Test.YtonjhkefnijlhaaDoorQM16La
set_option linter.all false
namespace Go.Proofs.YtonjhkefnijlhaaDoor.M
open Go.RowKit Go.Proofs.YtonjhkefnijlhaaDoor.RX
set_option maxRecDepth 100000
theorem ok_law16_PortLists (n : Nat) (a0 : List (S_api_Port)) (r : Bool) (h : law16_PortLists n a0 = some r) : CallsX Tryd.prog 8 [.recs (α := S_api_Port) (S_api_Port.mk [] 0 0 []) E_api_Port a0] (.val (.bool r)) := by
  unfold law16_PortLists at h
  refine callsX_of (fn := Tryd.f8) (by kernel_rfl) rfl (by kernel_rfl) (Nat.le_of_ble_eq_true (by kernel_rfl)) fun F0 w0 _ => ?_
  refine Wp.keep (kk := [0]) (kl := []) (K' := [(0, .recs (α := S_api_Port) (S_api_Port.mk [] 0 0 []) E_api_Port a0)]) (L' := []) (by kernel_rfl) (by kernel_rfl) ?_
  refine Wp.seq ?_
  refine Wp.region hΓ [] [] [] [0] [] (K' := [(0, .recs (α := S_api_Port) (S_api_Port.mk [] 0 0 []) E_api_Port a0)]) (L' := []) (ob := []) (by kernel_rfl) AllP.nil ?_
  refine To.thenN ?_
  refine Wp.seq ?_
  refine Wp.seq ?_
  refine Wp.region hΓ [] [] [] [0, 18] [] (K' := [(0, .recs (α := S_api_Port) (S_api_Port.mk [] 0 0 []) E_api_Port a0), (18, .val (.bool (decide ((List.length a0 : Int) > 40))))]) (L' := []) (ob := []) (by kernel_rfl) AllP.nil ?_
  refine To.thenN ?_
  refine Wp.cond (b := (decide ((List.length a0 : Int) > 40))) (by kernel_rfl) (fun hb => ?_) (fun hb => ?_)
  · replace h := if_t hb h
    refine Wp.seq ?_
    obtain ⟨r1, hr1, h⟩ := bind_of h
    refine Wp.region hΓ [] [(0, .val (.bool r1))] [] [2] [] (K' := [(2, .val (.bool r1))]) (L' := []) (ob := [(true = true → CX Tryd.prog 9 [] (.val (.bool r1)))]) (by kernel_rfl) (AllP.cons (fun _ => cx (ok_law16_awake n  _ hr1)) AllP.nil) ?_
    refine To.thenN ?_
    refine Wp.ret ?_
    refine To.thenR ?_
    refine To.keep (kk := [2]) (kl := []) (K' := [(2, .val (.bool r1))]) (L' := []) (by kernel_rfl) (by kernel_rfl) ?_
    cases h
    exact To.done hΓ (by kernel_rfl)
  · replace h := if_f hb h
    refine Wp.skip ?_
    refine To.thenN ?_
    refine Wp.seq ?_
    obtain ⟨r2, hr2, h⟩ := bind_of h
    refine Wp.region hΓ [] [(1, .tup [.val (.int .i64 r2.1), .val (.int .i64 r2.2.1), .val (.bool r2.2.2)])] [] [0, 3, 4, 5] [] (K' := [(0, .recs (α := S_api_Port) (S_api_Port.mk [] 0 0 []) E_api_Port a0), (3, .val (.int .i64 r2.1)), (4, .val (.int .i64 r2.2.1)), (5, .val (.bool r2.2.2))]) (L' := []) (ob := [(true = true → CX Tryd.prog 25 [.recs (α := S_api_Port) (S_api_Port.mk [] 0 0 []) E_api_Port a0] (.tup [.val (.int .i64 r2.1), .val (.int .i64 r2.2.1), .val (.bool r2.2.2)]))]) (by kernel_rfl) (AllP.cons (fun _ => cx (ok_port_First n a0 _ hr2)) AllP.nil) ?_
    refine To.thenN ?_
    refine Wp.seq ?_
    obtain ⟨r3, hr3, h⟩ := bind_of h
    refine Wp.region hΓ [] [(1, .tup [.val (.int .i64 r3.1), .val (.int .i64 r3.2.1), .val (.bool r3.2.2)])] [] [0, 3, 4, 5, 6, 7, 8] [] (K' := [(0, .recs (α := S_api_Port) (S_api_Port.mk [] 0 0 []) E_api_Port a0), (3, .val (.int .i64 r2.1)), (4, .val (.int .i64 r2.2.1)), (5, .val (.bool r2.2.2)), (6, .val (.int .i64 r3.1)), (7, .val (.int .i64 r3.2.1)), (8, .val (.bool r3.2.2))]) (L' := []) (ob := [(true = true → CX Tryd.prog 26 [.recs (α := S_api_Port) (S_api_Port.mk [] 0 0 []) E_api_Port a0] (.tup [.val (.int .i64 r3.1), .val (.int .i64 r3.2.1), .val (.bool r3.2.2)]))]) (by kernel_rfl) (AllP.cons (fun _ => cx (ok_ref16_First n a0 _ hr3)) AllP.nil) ?_
    refine To.thenN ?_
    refine Wp.seq ?_
    obtain ⟨r4, hr4, h⟩ := bind_of h
    refine Wp.region hΓ [] [(1, .recs (α := S_api_Port) (S_api_Port.mk [] 0 0 []) E_api_Port r4)] [] [0, 3, 4, 5, 6, 7, 8, 9] [] (K' := [(0, .recs (α := S_api_Port) (S_api_Port.mk [] 0 0 []) E_api_Port a0), (3, .val (.int .i64 r2.1)), (4, .val (.int .i64 r2.2.1)), (5, .val (.bool r2.2.2)), (6, .val (.int .i64 r3.1)), (7, .val (.int .i64 r3.2.1)), (8, .val (.bool r3.2.2)), (9, .recs (α := S_api_Port) (S_api_Port.mk [] 0 0 []) E_api_Port r4)]) (L' := []) (ob := [(true = true → CX Tryd.prog 27 [.recs (α := S_api_Port) (S_api_Port.mk [] 0 0 []) E_api_Port a0] (.recs (α := S_api_Port) (S_api_Port.mk [] 0 0 []) E_api_Port r4))]) (by kernel_rfl) (AllP.cons (fun _ => cx (ok_port_Sorted n a0 _ hr4)) AllP.nil) ?_
    refine To.thenN ?_
    refine Wp.seq ?_
    refine Wp.seq ?_
    obtain ⟨r5, hr5, h⟩ := bind_of h
    obtain ⟨r6, hr6, h⟩ := bind_of h
    obtain ⟨r7, hr7, h⟩ := bind_of h
    obtain ⟨r8, hr8, h⟩ := bind_of h
    obtain ⟨x9, hx9, h⟩ := lett_of h
    refine Wp.region hΓ [] [(16, .recs (α := S_api_Port) (S_api_Port.mk [] 0 0 []) E_api_Port r5), (17, .val (.bool r6)), (22, .recs (α := S_api_Port) (S_api_Port.mk [] 0 0 []) E_api_Port r7), (24, .val (.bool r8))] [] [0, 5, 60] [] (K' := [(0, .recs (α := S_api_Port) (S_api_Port.mk [] 0 0 []) E_api_Port a0), (5, .val (.bool r2.2.2)), (60, .val (.bool (bif (bif (bif (bif (r2.1 != r3.1) then true else (r2.2.1 != r3.2.1)) then true else (!(r2.2.2 == r3.2.2))) then true else (!r6)) then true else (!r8))))]) (L' := []) (ob := [(((bif (bif (r2.1 != r3.1) then true else (r2.2.1 != r3.2.1)) then true else (!(r2.2.2 == r3.2.2))) == false) = true → CX Tryd.prog 29 [.recs (α := S_api_Port) (S_api_Port.mk [] 0 0 []) E_api_Port a0] (.recs (α := S_api_Port) (S_api_Port.mk [] 0 0 []) E_api_Port r5)), (((bif (bif (r2.1 != r3.1) then true else (r2.2.1 != r3.2.1)) then true else (!(r2.2.2 == r3.2.2))) == false) = true → CX Tryd.prog 28 [.recs (α := S_api_Port) (S_api_Port.mk [] 0 0 []) E_api_Port r4, .recs (α := S_api_Port) (S_api_Port.mk [] 0 0 []) E_api_Port r5] (.val (.bool r6))), (((bif (bif (bif (r2.1 != r3.1) then true else (r2.2.1 != r3.2.1)) then true else (!(r2.2.2 == r3.2.2))) then true else (!r6)) == false) = true → CX Tryd.prog 27 [.recs (α := S_api_Port) (S_api_Port.mk [] 0 0 []) E_api_Port r4] (.recs (α := S_api_Port) (S_api_Port.mk [] 0 0 []) E_api_Port r7)), (((bif (bif (bif (r2.1 != r3.1) then true else (r2.2.1 != r3.2.1)) then true else (!(r2.2.2 == r3.2.2))) then true else (!r6)) == false) = true → CX Tryd.prog 28 [.recs (α := S_api_Port) (S_api_Port.mk [] 0 0 []) E_api_Port r7, .recs (α := S_api_Port) (S_api_Port.mk [] 0 0 []) E_api_Port r4] (.val (.bool r8)))]) (by kernel_rfl) (AllP.cons (fun hg => cx (ok_ref16_Sorted n a0 _ (if_t hg hr5))) (AllP.cons (fun hg => cx (ok_ref16_Same n r4 r5 _ (if_t hg hr6))) (AllP.cons (fun hg => cx (ok_port_Sorted n r4 _ (if_t hg hr7))) (AllP.cons (fun hg => cx (ok_ref16_Same n r7 r4 _ (if_t hg hr8))) AllP.nil)))) ?_
    refine To.eq (K' := [(0, .recs (α := S_api_Port) (S_api_Port.mk [] 0 0 []) E_api_Port a0), (5, .val (.bool r2.2.2)), (60, .val (.bool x9))]) (L' := []) (by cases hx9; rfl) (by cases hx9; rfl) ?_
    refine To.thenN ?_
    refine Wp.cond (b := x9) (by kernel_rfl) (fun hb => ?_) (fun hb => ?_)
    · replace h := if_t hb h
      refine Wp.seq ?_
      refine Wp.region hΓ [] [] [] [2] [] (K' := [(2, .val (.bool false))]) (L' := []) (ob := []) (by kernel_rfl) AllP.nil ?_
      refine To.thenN ?_
      refine Wp.ret ?_
      refine To.thenR ?_
      refine To.keep (kk := [2]) (kl := []) (K' := [(2, .val (.bool false))]) (L' := []) (by kernel_rfl) (by kernel_rfl) ?_
      cases h
      exact To.done hΓ (by kernel_rfl)
    · replace h := if_f hb h
      refine Wp.skip ?_
      refine To.thenN ?_
      refine Wp.seq ?_
      refine Wp.seq ?_
      refine Wp.region hΓ [] [] [] [0, 5, 10] [] (K' := [(0, .recs (α := S_api_Port) (S_api_Port.mk [] 0 0 []) E_api_Port a0), (5, .val (.bool r2.2.2)), (10, .val (.int .i64 1))]) (L' := []) (ob := []) (by kernel_rfl) AllP.nil ?_
      refine To.thenN ?_
      refine Wp.block ?_
      obtain ⟨o10, ho10, h⟩ := bind_of h
      refine Wp.keep (kk := [0, 5, 10]) (kl := []) (K' := [(0, .recs (α := S_api_Port) (S_api_Port.mk [] 0 0 []) E_api_Port a0), (5, .val (.bool r2.2.2)), (10, .val (.int .i64 1))]) (L' := []) (by kernel_rfl) (by kernel_rfl) ?_
      refine Wp.loopL ?_
      refine ok_law16_PortLists_l1 n a0 r2.2.2 n 1 o10 ho10 ?_
      rcases o10 with o10 | o10
      · replace h := sum_l h
        refine To.blockX ?_
        refine To.thenN ?_
        refine Wp.seq ?_
        refine Wp.region hΓ [] [] [] [0, 5, 11] [] (K' := [(0, .recs (α := S_api_Port) (S_api_Port.mk [] 0 0 []) E_api_Port a0), (5, .val (.bool r2.2.2)), (11, .val (.slice none 0 0))]) (L' := []) (ob := []) (by kernel_rfl) AllP.nil ?_
        refine To.thenN ?_
        refine Wp.seq ?_
        refine Wp.seq ?_
        refine Wp.region hΓ [] [] [] [0, 5, 11, 12] [] (K' := [(0, .recs (α := S_api_Port) (S_api_Port.mk [] 0 0 []) E_api_Port a0), (5, .val (.bool r2.2.2)), (11, .val (.slice none 0 0)), (12, .val (.int .i64 (IntKind.wrap .i64 ((List.length a0 : Int) - 1))))]) (L' := []) (ob := []) (by kernel_rfl) AllP.nil ?_
        refine To.thenN ?_
        refine Wp.block ?_
        obtain ⟨o11, ho11, h⟩ := bind_of h
        refine Wp.keep (kk := [0, 5, 11, 12]) (kl := []) (K' := [(0, .recs (α := S_api_Port) (S_api_Port.mk [] 0 0 []) E_api_Port a0), (5, .val (.bool r2.2.2)), (11, .val (.slice none 0 0)), (12, .val (.int .i64 (IntKind.wrap .i64 ((List.length a0 : Int) - 1))))]) (L' := []) (by kernel_rfl) (by kernel_rfl) ?_
        refine Wp.pre (St.vacant (t := 11) (k := 1011) (e := 24) (K' := [(0, .recs (α := S_api_Port) (S_api_Port.mk [] 0 0 []) E_api_Port a0), (5, .val (.bool r2.2.2)), (11, .row 1011), (12, .val (.int .i64 (IntKind.wrap .i64 ((List.length a0 : Int) - 1))))]) (good_E_api_Port _) (by decide) (by kernel_rfl) (by kernel_rfl)) ?_
        refine Wp.keep (kk := [0, 5, 11, 12]) (kl := [1011]) (K' := [(0, .recs (α := S_api_Port) (S_api_Port.mk [] 0 0 []) E_api_Port a0), (5, .val (.bool r2.2.2)), (11, .row 1011), (12, .val (.int .i64 (IntKind.wrap .i64 ((List.length a0 : Int) - 1))))]) (L' := [(1011, 24, [.rowc false (α := S_api_Port) (S_api_Port.mk [] 0 0 []) E_api_Port []])]) (by kernel_rfl) (by kernel_rfl) ?_
        refine Wp.loopL ?_
        refine ok_law16_PortLists_l2 n a0 r2.2.2 n ([] : List (S_api_Port)) (IntKind.wrap .i64 ((List.length a0 : Int) - 1)) o11 ho11 ?_
        refine To.blockX ?_
        refine To.thenN ?_
        refine Wp.seq ?_
        obtain ⟨r12, hr12, h⟩ := bind_of h
        refine Wp.region hΓ [(1, [1011])] [(1, .tup [.val (.int .i64 r12.1), .val (.int .i64 r12.2.1), .val (.bool r12.2.2)])] [] [5, 15] [] (K' := [(5, .val (.bool r2.2.2)), (15, .val (.bool r12.2.2))]) (L' := []) (ob := [(true = true → CX Tryd.prog 25 [.recs (α := S_api_Port) (S_api_Port.mk [] 0 0 []) E_api_Port o11] (.tup [.val (.int .i64 r12.1), .val (.int .i64 r12.2.1), .val (.bool r12.2.2)]))]) (by kernel_rfl) (AllP.cons (fun _ => cx (ok_port_First n o11 _ hr12)) AllP.nil) ?_
        refine To.thenN ?_
        refine Wp.seq ?_
        obtain ⟨r13, hr13, h⟩ := bind_of h
        refine Wp.region hΓ [] [(4, .val (.bool r13))] [] [2] [] (K' := [(2, .val (.bool (bif (r12.2.2 == r2.2.2) then r13 else false)))]) (L' := []) (ob := [(((r12.2.2 == r2.2.2) == true) = true → CX Tryd.prog 9 [] (.val (.bool r13)))]) (by kernel_rfl) (AllP.cons (fun hg => cx (ok_law16_awake n  _ (if_t hg hr13))) AllP.nil) ?_
        refine To.thenN ?_
        refine Wp.ret ?_
        refine To.keep (kk := [2]) (kl := []) (K' := [(2, .val (.bool (bif (r12.2.2 == r2.2.2) then r13 else false)))]) (L' := []) (by kernel_rfl) (by kernel_rfl) ?_
        cases h
        exact To.done hΓ (by kernel_rfl)
      · replace h := sum_r h
        refine To.blockR ?_
        refine To.thenR ?_
        refine To.keep (kk := [2]) (kl := []) (K' := [(2, .val (.bool o10))]) (L' := []) (by kernel_rfl) (by kernel_rfl) ?_
        cases h
        exact To.done hΓ (by kernel_rfl)
theorem opens_string : Opens Tryd.prog 9 (fun l : List UInt8 => l.length ≤ maxLen) (fun l => [.str l]) := opens_str (by kernel_rfl)
theorem opens_i64 : Opens Tryd.prog 3 (fun n : Int => IntKind.min .i64 ≤ n ∧ n ≤ IntKind.max .i64) (fun n => [.val (.int .i64 n)]) := opens_int (by kernel_rfl)
def W_api_Port (x : S_api_Port) : Prop := (List.length x.f_Host ≤ maxLen) ∧ (IntKind.min .i64 ≤ x.f_Out ∧ x.f_Out ≤ IntKind.max .i64) ∧ (IntKind.min .i64 ≤ x.f_In ∧ x.f_In ≤ IntKind.max .i64) ∧ (List.length x.f_Proto ≤ maxLen)
theorem opens_api_Port : Opens Tryd.prog 24 W_api_Port (fun x => [.str x.f_Host, .val (.int .i64 x.f_Out), .val (.int .i64 x.f_In), .str x.f_Proto]) := by
  intro H enc W fuel cs d ps h
  obtain ⟨hl, hf⟩ := field_of Tryd.underlying24 h
  have hl : cs.length = 4 := hl.trans (by kernel_rfl)
  obtain ⟨x0, w0, r0⟩ := hf 0 _ rfl opens_string
  have r0 := repAt (a' := 0) (b' := 1) r0 (by kernel_rfl) (by kernel_rfl)
  obtain ⟨x1, w1, r1⟩ := hf 1 _ rfl opens_i64
  have r1 := repAt (a' := 1) (b' := 1) r1 (by kernel_rfl) (by kernel_rfl)
  obtain ⟨x2, w2, r2⟩ := hf 2 _ rfl opens_i64
  have r2 := repAt (a' := 2) (b' := 1) r2 (by kernel_rfl) (by kernel_rfl)
  obtain ⟨x3, w3, r3⟩ := hf 3 _ rfl opens_string
  have r3 := repAt (a' := 3) (b' := 1) r3 (by kernel_rfl) (by kernel_rfl)
  refine ⟨⟨x0, x1, x2, x3⟩, ⟨w0, w1, w2, w3⟩, ?_⟩
  refine parts_all (l := [([.str x0], 1), ([.val (.int .i64 x1)], 1), ([.val (.int .i64 x2)], 1), ([.str x3], 1)]) ⟨r0, r1, r2, r3, Nat.le_of_eq hl⟩ rfl
def W_Lapi_Port (l : List (S_api_Port)) : Prop := l.length ≤ maxLen ∧ ∀ x ∈ l, (W_api_Port x)
theorem opens_Lapi_Port : Opens Tryd.prog 39 W_Lapi_Port (fun l => [.recs (α := S_api_Port) (S_api_Port.mk [] 0 0 []) E_api_Port l]) := opens_slice (α := S_api_Port) (cells := E_api_Port) (S_api_Port.mk [] 0 0 []) (by kernel_rfl) (by kernel_rfl) (of_decide_eq_true (by kernel_rfl)) opens_api_Port
end Go.Proofs.YtonjhkefnijlhaaDoor.M
