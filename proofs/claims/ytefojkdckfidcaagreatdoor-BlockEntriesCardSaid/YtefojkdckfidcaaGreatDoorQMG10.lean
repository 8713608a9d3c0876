import Derived.Test.YtefojkdckfidcaaGreatDoorQMG10f
set_option linter.all false
namespace Go.Proofs.YtefojkdckfidcaaGreatDoor.M
open Go.RowKit Go.Proofs.YtefojkdckfidcaaGreatDoor.RX
set_option maxRecDepth 100000
def law10_BlockEntries (n : Nat) (a0 : List UInt8) : Option (Bool) :=
  if (decide ((List.length a0 : Int) > 2000)) = true then ((law10_awake n).bind fun r1 =>
  some r1)
  else ((block_Entry n a0).bind fun r2 =>
  (ref10_Entry n a0).bind fun r3 =>
  ((if ((bif (bif (r2.1 == r3.1) then (r2.2.1 == r3.2.1) else false) then (r2.2.2 == r3.2.2) else false) == true) = true then ref10_Row n a0 else some false)).bind fun r4 =>
  ((if ((bif (bif (bif (r2.1 == r3.1) then (r2.2.1 == r3.2.1) else false) then (r2.2.2 == r3.2.2) else false) then ((block_Row a0) == r4) else false) == true) = true then law10_awake n else some false)).bind fun r5 =>
  lett ((bif (bif (bif (bif (r2.1 == r3.1) then (r2.2.1 == r3.2.1) else false) then (r2.2.2 == r3.2.2) else false) then ((block_Row a0) == r4) else false) then r5 else false) : Bool) fun x6 =>
  some x6)
theorem ok_law10_BlockEntries (n : Nat) (a0 : List UInt8) (r : Bool) (h : law10_BlockEntries n a0 = some r) : CallsX Tryz.prog 4 [.str a0] (vb r) := by
  unfold law10_BlockEntries at h
  refine callsX_of (fn := Tryz.f4) (by kernel_rfl) rfl (by kernel_rfl) (Nat.le_of_ble_eq_true (by kernel_rfl)) fun F0 w0 _ => ?_
  refine kw [0] [] [(0, .str a0)] [] ?_
  refine Wp.seq ?_
  refine rg [0] [] [(0, .str a0)] [] ?_
  refine To.thenN (Wp.seq (Wp.seq ?_))
  refine rg [0, 11] [] [(0, .str a0), (11, vb (decide ((List.length a0 : Int) > 2000)))] [] ?_
  refine To.thenN ?_
  refine Wp.cond (b := (decide ((List.length a0 : Int) > 2000))) (by kernel_rfl) (fun hb => ?_) (fun hb => ?_)
  · replace h := if_t hb h
    refine Wp.seq ?_
    obtain ⟨r1, hr1, h⟩ := bind_of h
    refine rr [] [(0, vb r1)] [] [2] [] [(2, vb r1)] [] [(true = true → CX Tryz.prog 8 [] (vb r1))] (AllP.cons (fun _ => cx (ok_law10_awake n  _ hr1)) AllP.nil) ?_
    refine To.thenN (Wp.ret (To.thenR ?_))
    refine kt [2] [] [(2, vb r1)] [] ?_
    cases h
    exact To.done hΓ (by kernel_rfl)
  · replace h := if_f hb h
    refine Wp.skip (To.thenN (Wp.seq ?_))
    obtain ⟨r2, hr2, h⟩ := bind_of h
    refine rr [] [(1, .tup [.str r2.1, .str r2.2.1, vi r2.2.2])] [] [0, 3, 4, 5] [] [(0, .str a0), (3, .str r2.1), (4, .str r2.2.1), (5, vi r2.2.2)] [] [(true = true → CX Tryz.prog 12 [.str a0] (.tup [.str r2.1, .str r2.2.1, vi r2.2.2]))] (AllP.cons (fun _ => cx (ok_block_Entry n a0 _ hr2)) AllP.nil) ?_
    refine To.thenN (Wp.seq ?_)
    obtain ⟨r3, hr3, h⟩ := bind_of h
    refine rr [] [(1, .tup [.str r3.1, .str r3.2.1, vi r3.2.2])] [] [0, 3, 4, 5, 6, 7, 8] [] [(0, .str a0), (3, .str r2.1), (4, .str r2.2.1), (5, vi r2.2.2), (6, .str r3.1), (7, .str r3.2.1), (8, vi r3.2.2)] [] [(true = true → CX Tryz.prog 13 [.str a0] (.tup [.str r3.1, .str r3.2.1, vi r3.2.2]))] (AllP.cons (fun _ => cx (ok_ref10_Entry n a0 _ hr3)) AllP.nil) ?_
    refine To.thenN (Wp.seq ?_)
    obtain ⟨r4, hr4, h⟩ := bind_of h
    obtain ⟨r5, hr5, h⟩ := bind_of h
    obtain ⟨x6, hx6, h⟩ := lett_of h
    refine rr [] [(15, vb (block_Row a0)), (17, vb r4), (21, vb r5)] [] [2] [] [(2, vb (bif (bif (bif (bif (r2.1 == r3.1) then (r2.2.1 == r3.2.1) else false) then (r2.2.2 == r3.2.2) else false) then ((block_Row a0) == r4) else false) then r5 else false))] [] [(((bif (bif (r2.1 == r3.1) then (r2.2.1 == r3.2.1) else false) then (r2.2.2 == r3.2.2) else false) == true) = true → CX Tryz.prog 14 [.str a0] (vb (block_Row a0))), (((bif (bif (r2.1 == r3.1) then (r2.2.1 == r3.2.1) else false) then (r2.2.2 == r3.2.2) else false) == true) = true → CX Tryz.prog 15 [.str a0] (vb r4)), (((bif (bif (bif (r2.1 == r3.1) then (r2.2.1 == r3.2.1) else false) then (r2.2.2 == r3.2.2) else false) then ((block_Row a0) == r4) else false) == true) = true → CX Tryz.prog 8 [] (vb r5))] (AllP.cons (fun _ => cx (ok_block_Row a0 _ rfl)) (AllP.cons (fun hg => cx (ok_ref10_Row n a0 _ (if_t hg hr4))) (AllP.cons (fun hg => cx (ok_law10_awake n  _ (if_t hg hr5))) AllP.nil))) ?_
    refine To.eq (K' := [(2, vb x6)]) (L' := []) (by cases hx6; rfl) (by cases hx6; rfl) ?_
    refine To.thenN (Wp.ret ?_)
    refine kt [2] [] [(2, vb x6)] [] ?_
    cases h
    exact To.done hΓ (by kernel_rfl)
theorem opens_string : Opens Tryz.prog 9 (fun l : List UInt8 => l.length ≤ maxLen) (fun l => [.str l]) := opens_str (by kernel_rfl)
end Go.Proofs.YtefojkdckfidcaaGreatDoor.M
