/-
  Proved: the law ShaRoots (longshorelaw05) returns true for every input, and its arguments read afterwards as before. Conditions: none beyond the row's own.
-/
import Derived.Test.YteliiabopphgmaaRows
import Derived.Test.YteliiabopphgmaaP05G
import Derived.Test.YteliiabopphgmaaRxArgs
namespace Go.Proofs.Yteliiabopphgmaa.lawShaRoots
open Go.ChangeShapes Go.WideShapes Go.ChangeAt Go.RowKit Go.Proofs.Yteliiabopphgmaa.RX Go.Proofs.Yteliiabopphgmaa.M
theorem own : ownKnob Try.prog.godebug = none := by kernel_rfl
theorem laidOut : laidOutB Try.prog = true := by kernel_rfl
theorem walk (a0 : Int) (w0 : (IntKind.min .i64 ≤ a0 ∧ a0 ≤ IntKind.max .i64)) (a1 : Int) (w1 : (IntKind.min .i64 ≤ a1 ∧ a1 ≤ IntKind.max .i64)) (a2 : Int) (w2 : (IntKind.min .i64 ≤ a2 ∧ a2 ≤ IntKind.max .i64)) : CallsX Try.prog 3 [.val (.int .i64 a0), .val (.int .i64 a1), .val (.int .i64 a2)] (.val (.bool true)) := by
  obtain ⟨n, h⟩ := M.law05_ShaRoots_true a0 w0 a1 w1 a2 w2
  exact M.ok_law05_ShaRoots n a0 a1 a2 true h
set_option maxRecDepth 100000 in
theorem lifted (os : Os) (started : os.Started) (H : Type) (enc : TypeId × Value → H) :
    ReturnsInHanded {} Try.checked os 3 .any (Rows.shaRootsSpec.pre6 enc Try.prog Try.f3 Rows.shaRootsRow.domain false) (Rows.shaRootsSpec.post enc Try.prog Try.f3 false true false false) := by
  refine returnsInHanded_of_change_shaped (C := Try.checked) own started (by kernel_rfl) Try.func3
    (ChangeSpec.witness6 (enc := enc) (C := Try.checked) false ⟨#[], #[.int .i64 0, .int .i64 0, .int .i64 0], []⟩ 8 (by kernel_rfl) (by kernel_rfl) (by kernel_rfl) (by kernel_rfl)) ?_
  intro W base args ds gs before hval0 hW hcnd _ hsh _
  have hval : ∀ (j : Nat) t v, Try.f3.params[j]? = some t → args[j]? = some v → Value.okWide Try.prog W .any base t v := hval0
  have hW' := hW
  obtain ⟨p, q, hA0, hV, rfl, hfz, hnd⟩ := hW
  have hA : DataW.TrodAll enc Try.prog W 0 (fun _ => true) true Try.f3.params.toList args.toList ds p := hA0
  rw [Try.params3] at hA hval
  have hlt : ∀ x ∈ p, x.block < W.heap.size := fun x hx => by simpa using hW'.lt x (List.mem_append_left _ hx)
  have hcarry := fun W' (hb : Below W.heap.size W W') => carry_all laidOut hb (by kernel_rfl) hlt hA
  obtain ⟨v0, vs0, d0, ds0, p0, q0, hargs, rfl, rfl, h0, r0⟩ := trodAll_cons hA
  obtain ⟨v1, vs1, d1, ds1, p1, q1, rfl, rfl, rfl, h1, r1⟩ := trodAll_cons r0
  obtain ⟨v2, vs2, d2, ds2, p2, q2, rfl, rfl, rfl, h2, r2⟩ := trodAll_cons r1
  obtain ⟨rfl, rfl, rfl⟩ := trodAll_nil r2
  obtain rfl : args = #[v0, v1, v2] := by cases args; simp_all
  obtain ⟨rfl, rfl⟩ := trodVars_none hV
  obtain ⟨a0, w0, e0⟩ := arg_one Try.underlying3 rfl (hval 0 3 v0 rfl rfl) h0 M.opens_i64
  obtain ⟨a1, w1, e1⟩ := arg_one Try.underlying3 rfl (hval 1 3 v1 rfl rfl) h1 M.opens_i64
  obtain ⟨a2, w2, e2⟩ := arg_one Try.underlying3 rfl (hval 2 3 v2 rfl rfl) h2 M.opens_i64
  clear hA0 hval0
  refine ((walk a0 w0 a1 w1 a2 w2).2 (Old W) W [v0, v1, v2] (shp_of hsh) (fun _ _ h => h) (.cons _ _ _ _ e0 (.cons _ _ _ _ e1 (.cons _ _ _ _ e2 .nil)))).mono fun e W' ⟨v, he, hv, bel⟩ => ?_
  subst he
  cases hv
  exact ⟨_, rfl, _, _, _, [], _, [], hW', trodAll_mk1 (shut_bool Try.underlying4 _), hcarry W' bel, rfl, bel.frame _, fun h => by cases h⟩
theorem over : Rows.shaRootsRow.holds Try.pinned (OpenSpec.ofChange Rows.shaRootsSpec) :=
  OpenClaim.holds_of_wide 3 Try.f3 rfl rfl rfl rfl rfl rfl rfl ⟨rfl, rfl, rfl, rfl, rfl⟩ rfl rfl rfl rfl rfl (by kernel_rfl) Try.func3 (by kernel_rfl)
    (of_decide_eq_true (by kernel_rfl)) (by unfold Func.isWrapper; first | (rw [if_pos (by decide +kernel)]; kernel_rfl) | (rw [if_neg (by decide +kernel)]; exact ⟨rfl, rfl⟩))
    (fun os started H enc _ => lifted os started H enc)
theorem proved : Rows.ShaRootsSaid :=
  over
#print axioms proved
end Go.Proofs.Yteliiabopphgmaa.lawShaRoots
