/-
  Proved: the law HostNil (longshorelaw35) returns true for every input, and its arguments read afterwards as before. Conditions: none beyond the row's own.
-/
import Derived.Test.YtaecmkldkljioaaGreatRows
import Derived.Test.YtaecmkldkljioaaGreatQP35N
import Derived.Test.YtaecmkldkljioaaGreatQRxArgs
namespace Go.Proofs.YtaecmkldkljioaaGreat.lawHostNil
open Go.ChangeShapes Go.WideShapes Go.ChangeAt Go.RowKit Go.Proofs.YtaecmkldkljioaaGreat.RX Go.Proofs.YtaecmkldkljioaaGreat.M
theorem own : ownKnob Tryz.prog.godebug = none := by kernel_rfl
theorem laidOut : laidOutB Tryz.prog = true := by kernel_rfl
theorem walk (a0 : S_law35_Deed) (w0 : (W_law35_Deed a0)) : CallsX Tryz.prog 7 [.agg [.val (.int .i64 a0.f_Kind), .val (.int .i64 a0.f_N), .val (.int .i64 a0.f_M), .val (.int .i64 a0.f_Call.f_Kind), .str a0.f_Call.f_Name, .val (.int .i64 a0.f_Call.f_Id), .str a0.f_Call.f_Spec.f_Name, .str a0.f_Call.f_Spec.f_Project, .str a0.f_Call.f_Spec.f_Service, .val (.int .i64 a0.f_Call.f_Spec.f_Number), .str a0.f_Call.f_Spec.f_Hash, .recs (α := List UInt8) [] E_string a0.f_Call.f_Spec.f_Nets, .recs (α := List UInt8) [] E_string a0.f_Call.f_Spec.f_Vols, .str a0.f_Call.f_Spec.f_Health.f_Test, .val (.int .i64 a0.f_Call.f_Spec.f_Health.f_Every), .val (.int .i64 a0.f_Call.f_Spec.f_Health.f_Start), .val (.int .i64 a0.f_Call.f_Spec.f_Health.f_Retries), .val (.int .i64 a0.f_Call.f_Spec.f_Restart), .val (.int .i64 a0.f_Call.f_Spec.f_Tries)]] (.val (.bool true)) := by
  obtain ⟨n, h⟩ := M.law35_HostNil_true a0 w0
  exact M.ok_law35_HostNil n a0 true h
set_option maxRecDepth 100000 in
theorem lifted (os : Os) (started : os.Started) (H : Type) (enc : TypeId × Value → H) :
    ReturnsInHanded {} Tryz.checked os 7 .any (Rows.hostNilSpec.pre6 enc Tryz.prog Tryz.f7 Rows.hostNilRow.domain false) (Rows.hostNilSpec.post enc Tryz.prog Tryz.f7 false true false false) := by
  refine returnsInHanded_of_change_shaped (C := Tryz.checked) own started (by kernel_rfl) Tryz.func7
    (ChangeSpec.witness6 (enc := enc) (C := Tryz.checked) false ⟨#[], #[.agg #[.int .i64 0, .int .i64 0, .int .i64 0, .int .i64 0, .string ⟨#[]⟩, .int .i64 0, .string ⟨#[]⟩, .string ⟨#[]⟩, .string ⟨#[]⟩, .int .i64 0, .string ⟨#[]⟩, .slice none 0 0, .slice none 0 0, .string ⟨#[]⟩, .int .i64 0, .int .i64 0, .int .i64 0, .int .i64 0, .int .i64 0]], []⟩ 8 (by kernel_rfl) (by kernel_rfl) (by kernel_rfl) (by kernel_rfl)) ?_
  intro W base args ds gs before hval0 hW hcnd _ hsh _
  have hval : ∀ (j : Nat) t v, Tryz.f7.params[j]? = some t → args[j]? = some v → Value.okWide Tryz.prog W .any base t v := hval0
  have hW' := hW
  obtain ⟨p, q, hA0, hV, rfl, hfz, hnd⟩ := hW
  have hA : DataW.TrodAll enc Tryz.prog W 0 (fun _ => true) true Tryz.f7.params.toList args.toList ds p := hA0
  rw [Tryz.params7] at hA hval
  have hlt : ∀ x ∈ p, x.block < W.heap.size := fun x hx => by simpa using hW'.lt x (List.mem_append_left _ hx)
  have hcarry := fun W' (hb : Below W.heap.size W W') => carry_all laidOut hb (by kernel_rfl) hlt hA
  obtain ⟨v0, vs0, d0, ds0, p0, q0, hargs, rfl, rfl, h0, r0⟩ := trodAll_cons hA
  obtain ⟨rfl, rfl, rfl⟩ := trodAll_nil r0
  obtain rfl : args = #[v0] := by cases args; simp_all
  obtain ⟨rfl, rfl⟩ := trodVars_none hV
  obtain ⟨a0, w0, e0⟩ := arg_agg Tryz.underlying75 (hval 0 75 v0 rfl rfl) h0 M.opens_law35_Deed
  clear hA0 hval0
  refine ((walk a0 w0).2 (Old W) W [v0] (shp_of hsh) (fun _ _ h => h) (.cons _ _ _ _ e0 .nil)).mono fun e W' ⟨v, he, hv, bel⟩ => ?_
  subst he
  cases hv
  exact ⟨_, rfl, _, _, _, [], _, [], hW', trodAll_mk1 (shut_bool Tryz.underlying4 _), hcarry W' bel, rfl, bel.frame _, fun h => by cases h⟩
theorem over : Rows.hostNilRow.holds Tryz.pinned (OpenSpec.ofChange Rows.hostNilSpec) :=
  OpenClaim.holds_of_wide 7 Tryz.f7 rfl rfl rfl rfl rfl rfl rfl ⟨rfl, rfl, rfl, rfl, rfl⟩ rfl rfl rfl rfl rfl (by kernel_rfl) Tryz.func7 (by kernel_rfl)
    (of_decide_eq_true (by kernel_rfl)) (by unfold Func.isWrapper; first | (rw [if_pos (by decide +kernel)]; kernel_rfl) | (rw [if_neg (by decide +kernel)]; exact ⟨rfl, rfl⟩))
    (fun os started H enc _ => lifted os started H enc)
theorem proved : Rows.HostNilSaid :=
  over
#print axioms proved
end Go.Proofs.YtaecmkldkljioaaGreat.lawHostNil
