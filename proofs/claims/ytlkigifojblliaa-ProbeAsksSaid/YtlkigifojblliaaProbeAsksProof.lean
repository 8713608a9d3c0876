/-
  Proved: the law ProbeAsks (longshorelaw30) returns true for every input, and its arguments read afterwards as before. Conditions: none beyond the row's own.
-/
import Derived.Test.YtlkigifojblliaaRows
import Derived.Test.YtlkigifojblliaaP30A
import Derived.Test.YtlkigifojblliaaRxArgs
namespace Go.Proofs.Ytlkigifojblliaa.lawProbeAsks
open Go.ChangeShapes Go.WideShapes Go.ChangeAt Go.RowKit Go.Proofs.Ytlkigifojblliaa.RX
theorem own : ownKnob Try.prog.godebug = none := by kernel_rfl
theorem laidOut : laidOutB Try.prog = true := by kernel_rfl
theorem walk (a0 : M.S28) (w0 : (M.W29 a0)) (a1 : M.S30) (w1 : (M.W31 a1)) (a2 : Int) (w2 : (IntKind.min .i64 ≤ a2 ∧ a2 ≤ IntKind.max .i64)) (a3 : Int) (w3 : (IntKind.min .i64 ≤ a3 ∧ a3 ≤ IntKind.max .i64)) (a4 : Bool) (w4 : True) : CallsX Try.prog 6 [.agg [.str a0.f_Test, .val (.int .i64 a0.f_Every), .val (.int .i64 a0.f_Start), .val (.int .i64 a0.f_Retries)], .agg [.val (.int .i64 a1.f_Health), .val (.int .i64 a1.f_Fails), .val (.int .i64 a1.f_Began), .val (.int .i64 a1.f_Next)], .val (.int .i64 a2), .val (.int .i64 a3), .val (.bool a4)] (.val (.bool true)) := by
  obtain ⟨n, h⟩ := M.law30_ProbeAsks_true a0 w0 a1 w1 a2 w2 a3 w3 a4 w4
  exact M.ok_law30_ProbeAsks n a0 a1 a2 a3 a4 true h
set_option maxRecDepth 100000 in
theorem lifted (os : Os) (started : os.Started) (H : Type) (enc : TypeId × Value → H) :
    ReturnsInHanded {} Try.checked os 6 .any (Rows.probeAsksSpec.pre6 enc Try.prog Try.f6 Rows.probeAsksRow.domain false) (Rows.probeAsksSpec.post enc Try.prog Try.f6 false true false false) := by
  refine returnsInHanded_of_change (C := Try.checked) own started (by kernel_rfl) Try.func6
    (ChangeSpec.witness6 (enc := enc) (C := Try.checked) false ⟨#[], #[.agg #[.string ⟨#[]⟩, .int .i64 0, .int .i64 0, .int .i64 0], .agg #[.int .i64 0, .int .i64 0, .int .i64 0, .int .i64 0], .int .i64 0, .int .i64 0, .bool false], []⟩ 8 (by kernel_rfl) (by kernel_rfl) (by kernel_rfl) (by kernel_rfl)) ?_
  intro W base args ds gs before hval0 hW hcnd _
  have hval : ∀ (j : Nat) t v, Try.f6.params[j]? = some t → args[j]? = some v → Value.okWide Try.prog W .any base t v := hval0
  have hW' := hW
  obtain ⟨p, q, hA0, hV, rfl, hfz, hnd⟩ := hW
  have hA : DataW.TrodAll enc Try.prog W 0 (fun _ => true) true Try.f6.params.toList args.toList ds p := hA0
  rw [Try.params6] at hA hval
  have hlt : ∀ x ∈ p, x.block < W.heap.size := fun x hx => by simpa using hW'.lt x (List.mem_append_left _ hx)
  have hcarry := fun W' (hb : Below W.heap.size W W') => carry_all laidOut hb (by kernel_rfl) hlt hA
  obtain ⟨v0, vs0, d0, ds0, p0, q0, hargs, rfl, rfl, h0, r0⟩ := trodAll_cons hA
  obtain ⟨v1, vs1, d1, ds1, p1, q1, rfl, rfl, rfl, h1, r1⟩ := trodAll_cons r0
  obtain ⟨v2, vs2, d2, ds2, p2, q2, rfl, rfl, rfl, h2, r2⟩ := trodAll_cons r1
  obtain ⟨v3, vs3, d3, ds3, p3, q3, rfl, rfl, rfl, h3, r3⟩ := trodAll_cons r2
  obtain ⟨v4, vs4, d4, ds4, p4, q4, rfl, rfl, rfl, h4, r4⟩ := trodAll_cons r3
  obtain ⟨rfl, rfl, rfl⟩ := trodAll_nil r4
  obtain rfl : args = #[v0, v1, v2, v3, v4] := by cases args; simp_all
  obtain ⟨rfl, rfl⟩ := trodVars_none hV
  obtain ⟨a0, w0, e0⟩ := arg_agg Try.underlying29 (hval 0 29 v0 rfl rfl) h0 M.opens29
  obtain ⟨a1, w1, e1⟩ := arg_agg Try.underlying31 (hval 1 31 v1 rfl rfl) h1 M.opens31
  obtain ⟨a2, w2, e2⟩ := arg_one Try.underlying3 rfl (hval 2 3 v2 rfl rfl) h2 M.opens3
  obtain ⟨a3, w3, e3⟩ := arg_one Try.underlying3 rfl (hval 3 3 v3 rfl rfl) h3 M.opens3
  obtain ⟨a4, w4, e4⟩ := arg_one Try.underlying4 rfl (hval 4 4 v4 rfl rfl) h4 M.opens4
  clear hA0 hval0
  refine ((walk a0 w0 a1 w1 a2 w2 a3 w3 a4 w4).2 (Old W) W [v0, v1, v2, v3, v4] (fun _ _ h => h) (.cons _ _ _ _ e0 (.cons _ _ _ _ e1 (.cons _ _ _ _ e2 (.cons _ _ _ _ e3 (.cons _ _ _ _ e4 .nil)))))).mono fun e W' ⟨v, he, hv, bel⟩ => ?_
  subst he
  cases hv
  exact ⟨_, rfl, _, _, _, [], _, [], hW', trodAll_mk1 (shut_bool Try.underlying4 _), hcarry W' bel, rfl, bel.frame _, fun h => by cases h⟩
theorem over : Rows.probeAsksRow.holds Try.pinned (OpenSpec.ofChange Rows.probeAsksSpec) :=
  OpenClaim.holds_of_wide 6 Try.f6 rfl rfl rfl rfl rfl rfl rfl ⟨rfl, rfl, rfl, rfl, rfl⟩ rfl rfl rfl rfl rfl (by kernel_rfl) Try.func6 (by kernel_rfl)
    (of_decide_eq_true (by kernel_rfl)) (by unfold Func.isWrapper; first | (rw [if_pos (by decide +kernel)]; kernel_rfl) | (rw [if_neg (by decide +kernel)]; exact ⟨rfl, rfl⟩))
    (fun os started H enc _ => lifted os started H enc)
theorem proved : Rows.ProbeAsksSaid :=
  over
#print axioms proved
end Go.Proofs.Ytlkigifojblliaa.lawProbeAsks
