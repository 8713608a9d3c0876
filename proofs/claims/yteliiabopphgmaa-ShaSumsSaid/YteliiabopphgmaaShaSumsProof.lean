/-
  Proved: the law ShaSums (longshorelaw05) returns true for every input, and its arguments read afterwards as before. Conditions: none beyond the row's own.
-/
import Derived.Test.YteliiabopphgmaaRows
import Derived.Test.YteliiabopphgmaaP05M
import Derived.Test.YteliiabopphgmaaRxArgs
namespace Go.Proofs.Yteliiabopphgmaa.lawShaSums
open Go.ChangeShapes Go.WideShapes Go.ChangeAt Go.RowKit Go.Proofs.Yteliiabopphgmaa.RX Go.Proofs.Yteliiabopphgmaa.M
theorem own : ownKnob Try.prog.godebug = none := by kernel_rfl
theorem laidOut : laidOutB Try.prog = true := by kernel_rfl
theorem walk (a0 : List UInt8) (w0 : (List.length a0 ≤ maxLen)) : CallsX Try.prog 6 [.str a0] (.val (.bool true)) := by
  obtain ⟨n, h⟩ := M.law05_ShaSums_true a0 w0
  exact M.ok_law05_ShaSums n a0 true h
set_option maxRecDepth 100000 in
theorem lifted (os : Os) (started : os.Started) (H : Type) (enc : TypeId × Value → H) :
    ReturnsInHanded {} Try.checked os 6 .any (Rows.shaSumsSpec.pre6 enc Try.prog Try.f6 Rows.shaSumsRow.domain false) (Rows.shaSumsSpec.post enc Try.prog Try.f6 false true false false) := by
  refine returnsInHanded_of_change_shaped (C := Try.checked) own started (by kernel_rfl) Try.func6
    (ChangeSpec.witness6 (enc := enc) (C := Try.checked) false ⟨#[], #[.string ⟨#[]⟩], []⟩ 8 (by kernel_rfl) (by kernel_rfl) (by kernel_rfl) (by kernel_rfl)) ?_
  intro W base args ds gs before hval0 hW hcnd _ hsh _
  have hval : ∀ (j : Nat) t v, Try.f6.params[j]? = some t → args[j]? = some v → Value.okWide Try.prog W .any base t v := hval0
  have hW' := hW
  obtain ⟨p, q, hA0, hV, rfl, hfz, hnd⟩ := hW
  have hA : DataW.TrodAll enc Try.prog W 0 (fun _ => true) true Try.f6.params.toList args.toList ds p := hA0
  rw [Try.params6] at hA hval
  have hlt : ∀ x ∈ p, x.block < W.heap.size := fun x hx => by simpa using hW'.lt x (List.mem_append_left _ hx)
  have hcarry := fun W' (hb : Below W.heap.size W W') => carry_all laidOut hb (by kernel_rfl) hlt hA
  obtain ⟨v0, vs0, d0, ds0, p0, q0, hargs, rfl, rfl, h0, r0⟩ := trodAll_cons hA
  obtain ⟨rfl, rfl, rfl⟩ := trodAll_nil r0
  obtain rfl : args = #[v0] := by cases args; simp_all
  obtain ⟨rfl, rfl⟩ := trodVars_none hV
  obtain ⟨a0, w0, e0⟩ := arg_one Try.underlying9 rfl (hval 0 9 v0 rfl rfl) h0 M.opens_string
  clear hA0 hval0
  refine ((walk a0 w0).2 (Old W) W [v0] (shp_of hsh) (fun _ _ h => h) (.cons _ _ _ _ e0 .nil)).mono fun e W' ⟨v, he, hv, bel⟩ => ?_
  subst he
  cases hv
  exact ⟨_, rfl, _, _, _, [], _, [], hW', trodAll_mk1 (shut_bool Try.underlying4 _), hcarry W' bel, rfl, bel.frame _, fun h => by cases h⟩
theorem over : Rows.shaSumsRow.holds Try.pinned (OpenSpec.ofChange Rows.shaSumsSpec) :=
  OpenClaim.holds_of_wide 6 Try.f6 rfl rfl rfl rfl rfl rfl rfl ⟨rfl, rfl, rfl, rfl, rfl⟩ rfl rfl rfl rfl rfl (by kernel_rfl) Try.func6 (by kernel_rfl)
    (of_decide_eq_true (by kernel_rfl)) (by unfold Func.isWrapper; first | (rw [if_pos (by decide +kernel)]; kernel_rfl) | (rw [if_neg (by decide +kernel)]; exact ⟨rfl, rfl⟩))
    (fun os started H enc _ => lifted os started H enc)
theorem proved : Rows.ShaSumsSaid :=
  over
#print axioms proved
end Go.Proofs.Yteliiabopphgmaa.lawShaSums
