/-
  Proved: the law ViewTells (longshorelaw36) returns true for every input, and its arguments read afterwards as before. Conditions: none beyond the row's own.
-/
import Derived.Test.YtaecmkldkljioaaRows
import Derived.Test.YtaecmkldkljioaaQP36T
import Derived.Test.YtaecmkldkljioaaQRxArgs
namespace Go.Proofs.Ytaecmkldkljioaa.lawViewTells
open Go.ChangeShapes Go.WideShapes Go.ChangeAt Go.RowKit Go.Proofs.Ytaecmkldkljioaa.RX Go.Proofs.Ytaecmkldkljioaa.M
theorem own : ownKnob Try.prog.godebug = none := by kernel_rfl
theorem laidOut : laidOutB Try.prog = true := by kernel_rfl
theorem walk (a0 : S_ref36_Seen) (w0 : (W_ref36_Seen a0)) (a1 : S_api_Project) (w1 : (W_api_Project a1)) (a2 : List UInt8) (w2 : (List.length a2 ≤ maxLen)) (a3 : List UInt8) (w3 : (List.length a3 ≤ maxLen)) (a4 : Int) (w4 : (IntKind.min .i64 ≤ a4 ∧ a4 ≤ IntKind.max .i64)) : CallsX Try.prog 4 [.agg [.recs (α := S_api_Container) (S_api_Container.mk 0 (S_api_Spec.mk [] [] [] 0 [] [] [] (S_api_Check.mk [] 0 0 0) 0 0) 0 0 0 0) E_api_Container a0.f_Boxes, .recs (α := S_api_Kept) (S_api_Kept.mk [] []) E_api_Kept a0.f_Nets, .recs (α := S_api_Kept) (S_api_Kept.mk [] []) E_api_Kept a0.f_Vols], .agg [.str a1.f_Name, .recs (α := S_api_Service) (S_api_Service.mk [] [] [] [] [] [] [] [] [] 0 (S_api_Check.mk [] 0 0 0) 0 0 0 0) E_api_Service a1.f_Services, .recs (α := List UInt8) [] E_string a1.f_Nets, .recs (α := List UInt8) [] E_string a1.f_Vols], .str a2, .str a3, .val (.int .i64 a4)] (.val (.bool true)) := by
  obtain ⟨n, h⟩ := M.law36_ViewTells_true a0 w0 a1 w1 a2 w2 a3 w3 a4 w4
  exact M.ok_law36_ViewTells n a0 a1 a2 a3 a4 true h
set_option maxRecDepth 100000 in
theorem lifted (os : Os) (started : os.Started) (H : Type) (enc : TypeId × Value → H) :
    ReturnsInHanded {} Try.checked os 4 .any (Rows.viewTellsSpec.pre6 enc Try.prog Try.f4 Rows.viewTellsRow.domain false) (Rows.viewTellsSpec.post enc Try.prog Try.f4 false true false false) := by
  refine returnsInHanded_of_change_shaped (C := Try.checked) own started (by kernel_rfl) Try.func4
    (ChangeSpec.witness6 (enc := enc) (C := Try.checked) false ⟨#[], #[.agg #[.slice none 0 0, .slice none 0 0, .slice none 0 0], .agg #[.string ⟨#[]⟩, .slice none 0 0, .slice none 0 0, .slice none 0 0], .string ⟨#[]⟩, .string ⟨#[]⟩, .int .i64 0], []⟩ 8 (by kernel_rfl) (by kernel_rfl) (by kernel_rfl) (by kernel_rfl)) ?_
  intro W base args ds gs before hval0 hW hcnd _ hsh _
  have hval : ∀ (j : Nat) t v, Try.f4.params[j]? = some t → args[j]? = some v → Value.okWide Try.prog W .any base t v := hval0
  have hW' := hW
  obtain ⟨p, q, hA0, hV, rfl, hfz, hnd⟩ := hW
  have hA : DataW.TrodAll enc Try.prog W 0 (fun _ => true) true Try.f4.params.toList args.toList ds p := hA0
  rw [Try.params4] at hA hval
  have hlt : ∀ x ∈ p, x.block < W.heap.size := fun x hx => by simpa using hW'.lt x (List.mem_append_left _ hx)
  have hcarry := fun W' (hb : Below W.heap.size W W') => carry_all laidOut hb (by kernel_rfl) hlt hA
  obtain ⟨v0, vs0, d0, ds0, p0, q0, hargs, rfl, rfl, h0, r0⟩ := trodAll_cons hA
  obtain ⟨v1, vs1, d1, ds1, p1, q1, rfl, rfl, rfl, h1, r1⟩ := trodAll_cons r0
  obtain ⟨v2, vs2, d2, ds2, p2, q2, rfl, rfl, rfl, h2, r2⟩ := trodAll_cons r1
  obtain ⟨v3, vs3, d3, ds3, p3, q3, rfl, rfl, rfl, h3, r3⟩ := trodAll_cons r2
  obtain ⟨v4, vs4, d4, ds4, p4, q4, rfl, rfl, rfl, h4, r4⟩ := trodAll_cons r3
  obtain ⟨rfl, rfl, rfl⟩ := trodAll_nil r4
  obtain rfl : args = #[v0, v1, v2, v3, v4] := by cases args; simp_all
  obtain ⟨rfl, rfl⟩ := trodVars_none hV
  obtain ⟨a0, w0, e0⟩ := arg_agg Try.underlying25 (hval 0 25 v0 rfl rfl) h0 M.opens_ref36_Seen
  obtain ⟨a1, w1, e1⟩ := arg_agg Try.underlying29 (hval 1 29 v1 rfl rfl) h1 M.opens_api_Project
  obtain ⟨a2, w2, e2⟩ := arg_one Try.underlying9 rfl (hval 2 9 v2 rfl rfl) h2 M.opens_string
  obtain ⟨a3, w3, e3⟩ := arg_one Try.underlying9 rfl (hval 3 9 v3 rfl rfl) h3 M.opens_string
  obtain ⟨a4, w4, e4⟩ := arg_one Try.underlying3 rfl (hval 4 3 v4 rfl rfl) h4 M.opens_i64
  clear hA0 hval0
  refine ((walk a0 w0 a1 w1 a2 w2 a3 w3 a4 w4).2 (Old W) W [v0, v1, v2, v3, v4] (shp_of hsh) (fun _ _ h => h) (.cons _ _ _ _ e0 (.cons _ _ _ _ e1 (.cons _ _ _ _ e2 (.cons _ _ _ _ e3 (.cons _ _ _ _ e4 .nil)))))).mono fun e W' ⟨v, he, hv, bel⟩ => ?_
  subst he
  cases hv
  exact ⟨_, rfl, _, _, _, [], _, [], hW', trodAll_mk1 (shut_bool Try.underlying4 _), hcarry W' bel, rfl, bel.frame _, fun h => by cases h⟩
theorem over : Rows.viewTellsRow.holds Try.pinned (OpenSpec.ofChange Rows.viewTellsSpec) :=
  OpenClaim.holds_of_wide 4 Try.f4 rfl rfl rfl rfl rfl rfl rfl ⟨rfl, rfl, rfl, rfl, rfl⟩ rfl rfl rfl rfl rfl (by kernel_rfl) Try.func4 (by kernel_rfl)
    (of_decide_eq_true (by kernel_rfl)) (by unfold Func.isWrapper; first | (rw [if_pos (by decide +kernel)]; kernel_rfl) | (rw [if_neg (by decide +kernel)]; exact ⟨rfl, rfl⟩))
    (fun os started H enc _ => lifted os started H enc)
theorem proved : Rows.ViewTellsSaid :=
  over
#print axioms proved
end Go.Proofs.Ytaecmkldkljioaa.lawViewTells
