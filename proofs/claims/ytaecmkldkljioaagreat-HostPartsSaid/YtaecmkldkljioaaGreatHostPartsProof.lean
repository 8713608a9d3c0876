/-
  Proved: the law HostParts (longshorelaw35) returns true for every input, and its arguments read afterwards as before. Conditions: none beyond the row's own.
-/
import Derived.Test.YtaecmkldkljioaaGreatRows
import Derived.Test.YtaecmkldkljioaaGreatQP35L
import Derived.Test.YtaecmkldkljioaaGreatQRxArgs
namespace Go.Proofs.YtaecmkldkljioaaGreat.lawHostParts
open Go.ChangeShapes Go.WideShapes Go.ChangeAt Go.RowKit Go.Proofs.YtaecmkldkljioaaGreat.RX Go.Proofs.YtaecmkldkljioaaGreat.M
theorem own : ownKnob Tryz.prog.godebug = none := by kernel_rfl
theorem laidOut : laidOutB Tryz.prog = true := by kernel_rfl
theorem walk (a0 : List (S_fault_Gap)) (w0 : (W_Lref34_Gap a0)) (a1 : List (S_law35_Deed)) (w1 : (W_Llaw35_Deed a1)) (a2 : Int) (w2 : (IntKind.min .i64 ≤ a2 ∧ a2 ≤ IntKind.max .i64)) (a3 : Int) (w3 : (IntKind.min .i64 ≤ a3 ∧ a3 ≤ IntKind.max .i64)) : CallsX Tryz.prog 5 [.recs (α := S_fault_Gap) (S_fault_Gap.mk 0 0) E_ref34_Gap a0, .recs (α := S_law35_Deed) (S_law35_Deed.mk 0 0 0 (S_api_Call.mk 0 [] 0 (S_api_Spec.mk [] [] [] 0 [] [] [] (S_api_Check.mk [] 0 0 0) 0 0))) E_law35_Deed a1, .val (.int .i64 a2), .val (.int .i64 a3)] (.val (.bool true)) := by
  obtain ⟨n, h⟩ := M.law35_HostParts_true a0 w0 a1 w1 a2 w2 a3 w3
  exact M.ok_law35_HostParts n a0 a1 a2 a3 true h
set_option maxRecDepth 100000 in
theorem lifted (os : Os) (started : os.Started) (H : Type) (enc : TypeId × Value → H) :
    ReturnsInHanded {} Tryz.checked os 5 .any (Rows.hostPartsSpec.pre6 enc Tryz.prog Tryz.f5 Rows.hostPartsRow.domain false) (Rows.hostPartsSpec.post enc Tryz.prog Tryz.f5 false true false false) := by
  refine returnsInHanded_of_change_shaped (C := Tryz.checked) own started (by kernel_rfl) Tryz.func5
    (ChangeSpec.witness6 (enc := enc) (C := Tryz.checked) false ⟨#[], #[.slice none 0 0, .slice none 0 0, .int .i64 0, .int .i64 0], []⟩ 8 (by kernel_rfl) (by kernel_rfl) (by kernel_rfl) (by kernel_rfl)) ?_
  intro W base args ds gs before hval0 hW hcnd _ hsh _
  have hval : ∀ (j : Nat) t v, Tryz.f5.params[j]? = some t → args[j]? = some v → Value.okWide Tryz.prog W .any base t v := hval0
  have hW' := hW
  obtain ⟨p, q, hA0, hV, rfl, hfz, hnd⟩ := hW
  have hA : DataW.TrodAll enc Tryz.prog W 0 (fun _ => true) true Tryz.f5.params.toList args.toList ds p := hA0
  rw [Tryz.params5] at hA hval
  have hlt : ∀ x ∈ p, x.block < W.heap.size := fun x hx => by simpa using hW'.lt x (List.mem_append_left _ hx)
  have hcarry := fun W' (hb : Below W.heap.size W W') => carry_all laidOut hb (by kernel_rfl) hlt hA
  obtain ⟨v0, vs0, d0, ds0, p0, q0, hargs, rfl, rfl, h0, r0⟩ := trodAll_cons hA
  obtain ⟨v1, vs1, d1, ds1, p1, q1, rfl, rfl, rfl, h1, r1⟩ := trodAll_cons r0
  obtain ⟨v2, vs2, d2, ds2, p2, q2, rfl, rfl, rfl, h2, r2⟩ := trodAll_cons r1
  obtain ⟨v3, vs3, d3, ds3, p3, q3, rfl, rfl, rfl, h3, r3⟩ := trodAll_cons r2
  obtain ⟨rfl, rfl, rfl⟩ := trodAll_nil r3
  obtain rfl : args = #[v0, v1, v2, v3] := by cases args; simp_all
  obtain ⟨rfl, rfl⟩ := trodVars_none hV
  obtain ⟨a0, w0, e0⟩ := arg_one Tryz.underlying59 rfl (hval 0 59 v0 rfl rfl) h0 M.opens_Lref34_Gap
  obtain ⟨a1, w1, e1⟩ := arg_one Tryz.underlying72 rfl (hval 1 72 v1 rfl rfl) h1 M.opens_Llaw35_Deed
  obtain ⟨a2, w2, e2⟩ := arg_one Tryz.underlying3 rfl (hval 2 3 v2 rfl rfl) h2 M.opens_i64
  obtain ⟨a3, w3, e3⟩ := arg_one Tryz.underlying3 rfl (hval 3 3 v3 rfl rfl) h3 M.opens_i64
  clear hA0 hval0
  refine ((walk a0 w0 a1 w1 a2 w2 a3 w3).2 (Old W) W [v0, v1, v2, v3] (shp_of hsh) (fun _ _ h => h) (.cons _ _ _ _ e0 (.cons _ _ _ _ e1 (.cons _ _ _ _ e2 (.cons _ _ _ _ e3 .nil))))).mono fun e W' ⟨v, he, hv, bel⟩ => ?_
  subst he
  cases hv
  exact ⟨_, rfl, _, _, _, [], _, [], hW', trodAll_mk1 (shut_bool Tryz.underlying4 _), hcarry W' bel, rfl, bel.frame _, fun h => by cases h⟩
theorem over : Rows.hostPartsRow.holds Tryz.pinned (OpenSpec.ofChange Rows.hostPartsSpec) :=
  OpenClaim.holds_of_wide 5 Tryz.f5 rfl rfl rfl rfl rfl rfl rfl ⟨rfl, rfl, rfl, rfl, rfl⟩ rfl rfl rfl rfl rfl (by kernel_rfl) Tryz.func5 (by kernel_rfl)
    (of_decide_eq_true (by kernel_rfl)) (by unfold Func.isWrapper; first | (rw [if_pos (by decide +kernel)]; kernel_rfl) | (rw [if_neg (by decide +kernel)]; exact ⟨rfl, rfl⟩))
    (fun os started H enc _ => lifted os started H enc)
theorem proved : Rows.HostPartsSaid :=
  over
#print axioms proved
end Go.Proofs.YtaecmkldkljioaaGreat.lawHostParts
