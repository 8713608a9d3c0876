/-
  Proved: the law StoreNil (longshorelaw33) returns true for every input, and its arguments read afterwards as before. Conditions: none beyond the row's own.
-/
import Derived.Test.YtaecmkldkljioaaRows
import Derived.Test.YtaecmkldkljioaaQP33N
import Derived.Test.YtaecmkldkljioaaQRxArgs
namespace Go.Proofs.Ytaecmkldkljioaa.lawStoreNil
open Go.ChangeShapes Go.WideShapes Go.ChangeAt Go.RowKit Go.Proofs.Ytaecmkldkljioaa.RX Go.Proofs.Ytaecmkldkljioaa.M
theorem own : ownKnob Try.prog.godebug = none := by kernel_rfl
theorem laidOut : laidOutB Try.prog = true := by kernel_rfl
theorem walk (a0 : S_api_Call) (w0 : (W_api_Call a0)) (a1 : Int) (w1 : (IntKind.min .i64 ≤ a1 ∧ a1 ≤ IntKind.max .i64)) : CallsX Try.prog 6 [.agg [.val (.int .i64 a0.f_Kind), .str a0.f_Name, .val (.int .i64 a0.f_Id), .str a0.f_Spec.f_Name, .str a0.f_Spec.f_Project, .str a0.f_Spec.f_Service, .val (.int .i64 a0.f_Spec.f_Number), .str a0.f_Spec.f_Hash, .recs (α := List UInt8) [] E_string a0.f_Spec.f_Nets, .recs (α := List UInt8) [] E_string a0.f_Spec.f_Vols, .str a0.f_Spec.f_Health.f_Test, .val (.int .i64 a0.f_Spec.f_Health.f_Every), .val (.int .i64 a0.f_Spec.f_Health.f_Start), .val (.int .i64 a0.f_Spec.f_Health.f_Retries), .val (.int .i64 a0.f_Spec.f_Restart), .val (.int .i64 a0.f_Spec.f_Tries)], .val (.int .i64 a1)] (.val (.bool true)) := by
  obtain ⟨n, h⟩ := M.law33_StoreNil_true a0 w0 a1 w1
  exact M.ok_law33_StoreNil n a0 a1 true h
set_option maxRecDepth 100000 in
theorem lifted (os : Os) (started : os.Started) (H : Type) (enc : TypeId × Value → H) :
    ReturnsInHanded {} Try.checked os 6 .any (Rows.storeNilSpec.pre6 enc Try.prog Try.f6 Rows.storeNilRow.domain false) (Rows.storeNilSpec.post enc Try.prog Try.f6 false true false false) := by
  refine returnsInHanded_of_change_shaped (C := Try.checked) own started (by kernel_rfl) Try.func6
    (ChangeSpec.witness6 (enc := enc) (C := Try.checked) false ⟨#[], #[.agg #[.int .i64 0, .string ⟨#[]⟩, .int .i64 0, .string ⟨#[]⟩, .string ⟨#[]⟩, .string ⟨#[]⟩, .int .i64 0, .string ⟨#[]⟩, .slice none 0 0, .slice none 0 0, .string ⟨#[]⟩, .int .i64 0, .int .i64 0, .int .i64 0, .int .i64 0, .int .i64 0], .int .i64 0], []⟩ 8 (by kernel_rfl) (by kernel_rfl) (by kernel_rfl) (by kernel_rfl)) ?_
  intro W base args ds gs before hval0 hW hcnd _ hsh _
  have hval : ∀ (j : Nat) t v, Try.f6.params[j]? = some t → args[j]? = some v → Value.okWide Try.prog W .any base t v := hval0
  have hW' := hW
  obtain ⟨p, q, hA0, hV, rfl, hfz, hnd⟩ := hW
  have hA : DataW.TrodAll enc Try.prog W 0 (fun _ => true) true Try.f6.params.toList args.toList ds p := hA0
  rw [Try.params6] at hA hval
  have hlt : ∀ x ∈ p, x.block < W.heap.size := fun x hx => by simpa using hW'.lt x (List.mem_append_left _ hx)
  have hcarry := fun W' (hb : Below W.heap.size W W') => carry_all laidOut hb (by kernel_rfl) hlt hA
  obtain ⟨v0, vs0, d0, ds0, p0, q0, hargs, rfl, rfl, h0, r0⟩ := trodAll_cons hA
  obtain ⟨v1, vs1, d1, ds1, p1, q1, rfl, rfl, rfl, h1, r1⟩ := trodAll_cons r0
  obtain ⟨rfl, rfl, rfl⟩ := trodAll_nil r1
  obtain rfl : args = #[v0, v1] := by cases args; simp_all
  obtain ⟨rfl, rfl⟩ := trodVars_none hV
  obtain ⟨a0, w0, e0⟩ := arg_agg Try.underlying75 (hval 0 75 v0 rfl rfl) h0 M.opens_api_Call
  obtain ⟨a1, w1, e1⟩ := arg_one Try.underlying3 rfl (hval 1 3 v1 rfl rfl) h1 M.opens_i64
  clear hA0 hval0
  refine ((walk a0 w0 a1 w1).2 (Old W) W [v0, v1] (shp_of hsh) (fun _ _ h => h) (.cons _ _ _ _ e0 (.cons _ _ _ _ e1 .nil))).mono fun e W' ⟨v, he, hv, bel⟩ => ?_
  subst he
  cases hv
  exact ⟨_, rfl, _, _, _, [], _, [], hW', trodAll_mk1 (shut_bool Try.underlying4 _), hcarry W' bel, rfl, bel.frame _, fun h => by cases h⟩
theorem over : Rows.storeNilRow.holds Try.pinned (OpenSpec.ofChange Rows.storeNilSpec) :=
  OpenClaim.holds_of_wide 6 Try.f6 rfl rfl rfl rfl rfl rfl rfl ⟨rfl, rfl, rfl, rfl, rfl⟩ rfl rfl rfl rfl rfl (by kernel_rfl) Try.func6 (by kernel_rfl)
    (of_decide_eq_true (by kernel_rfl)) (by unfold Func.isWrapper; first | (rw [if_pos (by decide +kernel)]; kernel_rfl) | (rw [if_neg (by decide +kernel)]; exact ⟨rfl, rfl⟩))
    (fun os started H enc _ => lifted os started H enc)
theorem proved : Rows.StoreNilSaid :=
  over
#print axioms proved
end Go.Proofs.Ytaecmkldkljioaa.lawStoreNil
