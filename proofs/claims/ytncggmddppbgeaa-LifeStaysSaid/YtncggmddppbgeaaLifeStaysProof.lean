/-
  Proved: the law LifeStays (longshorelaw32) returns true for every input, and its arguments read afterwards as before. Conditions: none beyond the row's own.
-/
import Derived.Test.YtncggmddppbgeaaRows
import Derived.Test.YtncggmddppbgeaaP32S
import Derived.Test.YtncggmddppbgeaaRxArgs
namespace Go.Proofs.Ytncggmddppbgeaa.lawLifeStays
open Go.ChangeShapes Go.WideShapes Go.ChangeAt Go.RowKit Go.Proofs.Ytncggmddppbgeaa.RX
theorem own : ownKnob Try.prog.godebug = none := by kernel_rfl
theorem laidOut : laidOutB Try.prog = true := by kernel_rfl
theorem walk (a0 : M.S25) (w0 : (M.W26 a0)) (a1 : List (M.S40)) (w1 : (M.W27 a1)) : CallsX Try.prog 4 [.agg [.str a0.f_Name, .str a0.f_Project, .str a0.f_Service, .val (.int .i64 a0.f_Number), .str a0.f_Hash, .recs (α := List UInt8) [] M.E9 a0.f_Nets, .recs (α := List UInt8) [] M.E9 a0.f_Vols, .str a0.f_Health.f_Test, .val (.int .i64 a0.f_Health.f_Every), .val (.int .i64 a0.f_Health.f_Start), .val (.int .i64 a0.f_Health.f_Retries), .val (.int .i64 a0.f_Restart), .val (.int .i64 a0.f_Tries)], .recs (α := M.S40) (M.S40.mk 0 0 0) M.E41 a1] (.val (.bool true)) := by
  obtain ⟨n, h⟩ := M.law32_LifeStays_true a0 w0 a1 w1
  exact M.ok_law32_LifeStays n a0 a1 true h
set_option maxRecDepth 100000 in
theorem lifted (os : Os) (started : os.Started) (H : Type) (enc : TypeId × Value → H) :
    ReturnsInHanded {} Try.checked os 4 .any (Rows.lifeStaysSpec.pre6 enc Try.prog Try.f4 Rows.lifeStaysRow.domain false) (Rows.lifeStaysSpec.post enc Try.prog Try.f4 false true false false) := by
  refine returnsInHanded_of_change (C := Try.checked) own started (by kernel_rfl) Try.func4
    (ChangeSpec.witness6 (enc := enc) (C := Try.checked) false ⟨#[], #[.agg #[.string ⟨#[]⟩, .string ⟨#[]⟩, .string ⟨#[]⟩, .int .i64 0, .string ⟨#[]⟩, .slice none 0 0, .slice none 0 0, .string ⟨#[]⟩, .int .i64 0, .int .i64 0, .int .i64 0, .int .i64 0, .int .i64 0], .slice none 0 0], []⟩ 8 (by kernel_rfl) (by kernel_rfl) (by kernel_rfl) (by kernel_rfl)) ?_
  intro W base args ds gs before hval0 hW hcnd _
  have hval : ∀ (j : Nat) t v, Try.f4.params[j]? = some t → args[j]? = some v → Value.okWide Try.prog W .any base t v := hval0
  have hW' := hW
  obtain ⟨p, q, hA0, hV, rfl, hfz, hnd⟩ := hW
  have hA : DataW.TrodAll enc Try.prog W 0 (fun _ => true) true Try.f4.params.toList args.toList ds p := hA0
  rw [Try.params4] at hA hval
  have hlt : ∀ x ∈ p, x.block < W.heap.size := fun x hx => by simpa using hW'.lt x (List.mem_append_left _ hx)
  have hcarry := fun W' (hb : Below W.heap.size W W') => carry_all laidOut hb (by kernel_rfl) hlt hA
  obtain ⟨v0, vs0, d0, ds0, p0, q0, hargs, rfl, rfl, h0, r0⟩ := trodAll_cons hA
  obtain ⟨v1, vs1, d1, ds1, p1, q1, rfl, rfl, rfl, h1, r1⟩ := trodAll_cons r0
  obtain ⟨rfl, rfl, rfl⟩ := trodAll_nil r1
  obtain rfl : args = #[v0, v1] := by cases args; simp_all
  obtain ⟨rfl, rfl⟩ := trodVars_none hV
  obtain ⟨a0, w0, e0⟩ := arg_agg Try.underlying26 (hval 0 26 v0 rfl rfl) h0 M.opens26
  obtain ⟨a1, w1, e1⟩ := arg_one Try.underlying27 rfl (hval 1 27 v1 rfl rfl) h1 M.opens27
  clear hA0 hval0
  refine ((walk a0 w0 a1 w1).2 (Old W) W [v0, v1] (fun _ _ h => h) (.cons _ _ _ _ e0 (.cons _ _ _ _ e1 .nil))).mono fun e W' ⟨v, he, hv, bel⟩ => ?_
  subst he
  cases hv
  exact ⟨_, rfl, _, _, _, [], _, [], hW', trodAll_mk1 (shut_bool Try.underlying4 _), hcarry W' bel, rfl, bel.frame _, fun h => by cases h⟩
theorem over : Rows.lifeStaysRow.holds Try.pinned (OpenSpec.ofChange Rows.lifeStaysSpec) :=
  OpenClaim.holds_of_wide 4 Try.f4 rfl rfl rfl rfl rfl rfl rfl ⟨rfl, rfl, rfl, rfl, rfl⟩ rfl rfl rfl rfl rfl (by kernel_rfl) Try.func4 (by kernel_rfl)
    (of_decide_eq_true (by kernel_rfl)) (by unfold Func.isWrapper; first | (rw [if_pos (by decide +kernel)]; kernel_rfl) | (rw [if_neg (by decide +kernel)]; exact ⟨rfl, rfl⟩))
    (fun os started H enc _ => lifted os started H enc)
theorem proved : Rows.LifeStaysSaid :=
  over
#print axioms proved
end Go.Proofs.Ytncggmddppbgeaa.lawLifeStays
