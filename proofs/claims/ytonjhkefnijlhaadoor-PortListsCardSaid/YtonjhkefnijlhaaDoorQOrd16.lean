/-
  Part of the proof of PortLists: Ord16.
-/
import Derived.Test.YtonjhkefnijlhaaDoorQSh16L
import Derived.Test.YtonjhkefnijlhaaDoorQRxSortF
import Derived.Shelf.SlSortCmp.QuietGrown
import Derived.WalkKit
import Derived.StillTailTactics
set_option linter.all false
namespace Go.Proofs.YtonjhkefnijlhaaDoor.M
open Go Go.RowKit Go.Shelf Go.Lib Go.Sort
set_option maxHeartbeats 1000000 in
theorem isNaN_str (x : ByteArray) (w : World) : Calls Tryd.prog 92 #[.string x] w fun e w' => e = .returned (.bool false) ∧ w' = w := by
  go_enter Tryd.func92, Tryd.ntmps92
  go_wp2
  go_ret
  exact ⟨by simp, rfl⟩
set_option maxHeartbeats 1000000 in
theorem compare_str (x y : ByteArray) (w : World) : Calls Tryd.prog 70 #[.string x, .string y] w fun e w' => e = .returned (.int .i64 (if Op.bytesLess x.toList y.toList = true then -1 else if x.toList = y.toList then 0 else 1)) ∧ w' = w := by
  go_enter Tryd.func70, Tryd.ntmps70
  go_wp2_with (go_at_call 92; refine (isNaN_str _ _).mono ?_; rintro e w' ⟨rfl, hw⟩; rw [hw])
  all_goals (go_ret; refine ⟨?_, rfl⟩; simp_all)
def orI (a b c d : Int) : Int := if a ≠ 0 then a else if b ≠ 0 then b else if c ≠ 0 then c else d
set_option maxHeartbeats 4000000 in
theorem or4 (g : Nat) (a b c d : Int) (w : World) (h0 : w.cell? ⟨g, 0, none⟩ = some (.int .i64 a)) (h1 : w.cell? ⟨g, 1, none⟩ = some (.int .i64 b)) (h2 : w.cell? ⟨g, 2, none⟩ = some (.int .i64 c)) (h3 : w.cell? ⟨g, 3, none⟩ = some (.int .i64 d)) :
    Calls Tryd.prog 68 #[.slice (some ⟨g, 0, none⟩) 4 4] w fun e w' => e = .returned (.int .i64 (orI a b c d)) ∧ w' = w := by
  go_enter Tryd.func68, Tryd.ntmps68
  go_wp2
  refine wp_loop_rounds 5 ?_
  rw [rounds_succ]
  go_wp2
  · go_ret
    exact ⟨by simp_all [orI], rfl⟩
  rw [rounds_succ]
  go_wp2
  · go_ret
    exact ⟨by simp_all [orI], rfl⟩
  rw [rounds_succ]
  go_wp2
  · go_ret
    exact ⟨by simp_all [orI], rfl⟩
  rw [rounds_succ]
  go_wp2
  · go_ret
    exact ⟨by simp_all [orI], rfl⟩
  rw [rounds_succ]
  go_wp2
  go_ret
  exact ⟨by simp_all [orI], rfl⟩
def cmpS (x y : ByteArray) : Int := if Op.bytesLess x.toList y.toList = true then -1 else if x.toList = y.toList then 0 else 1
set_option maxHeartbeats 4000000 in
set_option maxRecDepth 100000 in
theorem order51 (h1 h2 p1 p2 : ByteArray) (o1 o2 i1 i2 : Int) (w : World) : Calls Tryd.prog 51 #[.agg #[.string h1, .int .i64 o1, .int .i64 i1, .string p1], .agg #[.string h2, .int .i64 o2, .int .i64 i2, .string p2]] w fun e w' =>
    e = .returned (.int .i64 (orI (Lib.compareInt i1 i2) (cmpS p1 p2) (cmpS h1 h2) (Lib.compareInt o1 o2))) ∧ ∃ q os', w' = grow (w.drewN q) os' := by
  have hci := fun x y W => Tryd.cmp_Compare_int x y W
  have hcs := fun x y W => compare_str x y W
  have mixed : Tryd.prog.follows .mixedOrders = true := by kernel_rfl
  go_enter Tryd.func51, Tryd.ntmps51
  go_wp2_with fail
  refine wp_region_still_tail 20 mixed (by kernel_rfl) ?_
  generalize hW : (World.mk _ _ _ _ _ : World) = W
  have hA : W.heap[w.heap.size]? = some (Obj.cells #[.string h1, .int .i64 o1, .int .i64 i1, .string p1] 24) := by
    rw [← hW]; show ((w.heap.push _).push _)[w.heap.size]? = _; simp [Array.getElem?_push]
  have hB : W.heap[w.heap.size + 1]? = some (Obj.cells #[.string h2, .int .i64 o2, .int .i64 i2, .string p2] 24) := by
    rw [← hW]; show ((w.heap.push (Obj.cells #[.string h1, .int .i64 o1, .int .i64 i1, .string p1] 24)).push _)[w.heap.size + 1]? = _
    rw [show w.heap.size + 1 = (w.heap.push (Obj.cells #[.string h1, .int .i64 o1, .int .i64 i1, .string p1] 24)).size by simp]
    exact Array.getElem?_push_size
  have f0 : W.cell? ⟨w.heap.size, 0, none⟩ = some (.string h1) := by simp [World.cell?, hA, hB]
  have f1 : W.cell? ⟨w.heap.size, 1, none⟩ = some (.int .i64 o1) := by simp [World.cell?, hA, hB]
  have f2 : W.cell? ⟨w.heap.size, 2, none⟩ = some (.int .i64 i1) := by simp [World.cell?, hA, hB]
  have f3 : W.cell? ⟨w.heap.size, 3, none⟩ = some (.string p1) := by simp [World.cell?, hA, hB]
  have g0 : W.cell? ⟨w.heap.size + 1, 0, none⟩ = some (.string h2) := by simp [World.cell?, hA, hB]
  have g1 : W.cell? ⟨w.heap.size + 1, 1, none⟩ = some (.int .i64 o2) := by simp [World.cell?, hA, hB]
  have g2 : W.cell? ⟨w.heap.size + 1, 2, none⟩ = some (.int .i64 i2) := by simp [World.cell?, hA, hB]
  have g3 : W.cell? ⟨w.heap.size + 1, 3, none⟩ = some (.string p2) := by simp [World.cell?, hA, hB]
  have hWg : ∃ q os', W = grow (w.drewN q) os' := ⟨1, #[Obj.cells #[.string h1, .int .i64 o1, .int .i64 i1, .string p1] 24, Obj.cells #[.string h2, .int .i64 o2, .int .i64 i2, .string p2] 24], by rw [← hW, alloc_eq_grow, alloc_eq_grow, grow_grow]; rfl⟩
  clear hW hA hB
  simp only [List.take_succ_cons, List.take_zero, List.drop_succ_cons, List.drop_zero]
  still_step
  still_step
  still_step
  still_step
  still_call (hci i1 i2 _)
  still_step
  still_step
  still_step
  still_step
  still_call (hcs p1 p2 _)
  still_step
  still_step
  still_step
  still_step
  still_call (hcs h1 h2 _)
  still_step
  still_step
  still_step
  still_step
  still_call (hci o1 o2 _)
  refine wpStill_nil ?_
  generalize q1 : Lib.compareInt i1 i2 = c1
  generalize q4 : Lib.compareInt o1 o2 = c4
  have e2 : (if Op.bytesLess p1.toList p2.toList = true then (-1 : Int) else if p1.toList = p2.toList then 0 else 1) = cmpS p1 p2 := rfl
  have e3 : (if Op.bytesLess h1.toList h2.toList = true then (-1 : Int) else if h1.toList = h2.toList then 0 else 1) = cmpS h1 h2 := rfl
  rw [e2, e3]
  clear e2 e3
  generalize q2 : cmpS p1 p2 = c2
  generalize q3 : cmpS h1 h2 = c3
  go_wp2_with (go_at_call 68; refine (or4 _ c1 c2 c3 c4 _ (by simp) (by simp) (by simp) (by simp)).mono ?_; rintro e w' ⟨rfl, hw⟩; rw [hw])
  go_ret
  rw [q1, q2, q3, q4]
  obtain ⟨q, os, hg⟩ := hWg
  exact ⟨rfl, q, _, by rw [hg, alloc_eq_grow, grow_grow]⟩
end Go.Proofs.YtonjhkefnijlhaaDoor.M
