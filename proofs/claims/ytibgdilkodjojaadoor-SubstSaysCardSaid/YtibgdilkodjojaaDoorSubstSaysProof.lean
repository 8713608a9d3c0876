/-
  Proved: the law SubstSays (longshorelaw14) returns true for every input, and its arguments read afterwards as before. Conditions: none beyond the row's own.
-/
import Derived.Test.YtibgdilkodjojaaDoorRows
import Derived.Test.YtibgdilkodjojaaDoorTie
import Derived.Test.YtibgdilkodjojaaDoorCards
import Derived.Test.YtibgdilkodjojaaDoorQRxTied
import Derived.Test.YtibgdilkodjojaaDoorQP14G
import Derived.Test.YtibgdilkodjojaaDoorQRxArgs
namespace Go.Proofs.YtibgdilkodjojaaDoor.lawSubstSays
open Go.ChangeShapes Go.WideShapes Go.ChangeAt Go.RowKit Go.Proofs.YtibgdilkodjojaaDoor.RX Go.Proofs.YtibgdilkodjojaaDoor.M
theorem own : ownKnob Tryd.prog.godebug = none := by kernel_rfl
theorem laidOut : laidOutB Tryd.prog = true := by kernel_rfl
theorem walk (a0 : List UInt8) (w0 : (List.length a0 ≤ maxLen)) (a1 : List (S_api_Var)) (w1 : (W_Lapi_Var a1)) : CallsX Tryd.prog 3 [.str a0, .recs (α := S_api_Var) (S_api_Var.mk [] []) E_api_Var a1] (.val (.bool true)) := by
  obtain ⟨n, h⟩ := M.law14_SubstSays_true a0 w0 a1 w1
  exact M.ok_law14_SubstSays n a0 a1 true h
theorem laidAt (os : Os) (args : Array Value) : laidMetH Tryd.prog Rows.substSaysRow.laid ((World.laidAll Tryd.prog os Rows.substSaysRow.laid).forCall (fun _ _ => 0) ⟨#[], args, []⟩).memory := by
  rw [MakeChecks.laidMetH_plain _ _ _ (by kernel_rfl)]
  exact laidMet_laidAll args (by kernel_rfl) (by kernel_rfl)
set_option maxRecDepth 100000 in
theorem lifted (os : Os) (started : os.Started) (H : Type) (enc : TypeId × Value → H) :
    ReturnsInHanded {} Tryd.checked os 3 .any (fun w args => (Rows.substSaysSpec.pre enc Tryd.prog Tryd.f3 Rows.substSaysRow.domain false w args ∧ laidMetH Tryd.prog Rows.substSaysRow.laid w) ∧ sizedMet enc Tryd.prog Tryd.f3 (OpenSpec.ofChange Rows.substSaysSpec) false w args) (Rows.substSaysSpec.post enc Tryd.prog Tryd.f3 false true false false) := by
  refine returns_tied (C := Tryd.checked) own started (by kernel_rfl) Tryd.func3
    (ChangeSpec.witness_at (enc := enc) (C := Tryd.checked) (os := os) (X := fun w _ => laidMetH Tryd.prog Rows.substSaysRow.laid w) false (World.laidAll Tryd.prog os Rows.substSaysRow.laid) #[.string ⟨#[]⟩, .slice none 0 0] 8 (World.laidAll_os _ _ _) (by kernel_rfl) (by kernel_rfl) (by kernel_rfl) (by kernel_rfl) (by kernel_rfl) (laidAt os _)) ?_
  intro W base args ds gs before hval0 hW hsh
  have hval : ∀ (j : Nat) t v, Tryd.f3.params[j]? = some t → args[j]? = some v → Value.okWide Tryd.prog W .any base t v := hval0
  have hW' := hW
  obtain ⟨p, q, hA0, hV, rfl, hfz, hnd⟩ := hW
  have hA : DataW.TrodAll enc Tryd.prog W 0 (fun _ => true) true Tryd.f3.params.toList args.toList ds p := hA0
  rw [Tryd.params3] at hA hval
  have hlt : ∀ x ∈ p, x.block < W.heap.size := fun x hx => by simpa using hW'.lt x (List.mem_append_left _ hx)
  have hcarry := fun W' (hb : Below W.heap.size W W') => carry_all laidOut hb (by kernel_rfl) hlt hA
  obtain ⟨v0, vs0, d0, ds0, p0, q0, hargs, rfl, rfl, h0, r0⟩ := trodAll_cons hA
  obtain ⟨v1, vs1, d1, ds1, p1, q1, rfl, rfl, rfl, h1, r1⟩ := trodAll_cons r0
  obtain ⟨rfl, rfl, rfl⟩ := trodAll_nil r1
  obtain rfl : args = #[v0, v1] := by cases args; simp_all
  obtain ⟨rfl, rfl⟩ := trodVars_none hV
  obtain ⟨a0, w0, e0⟩ := arg_one Tryd.underlying9 rfl (hval 0 9 v0 rfl rfl) h0 M.opens_string
  obtain ⟨a1, w1, e1⟩ := arg_one Tryd.underlying22 rfl (hval 1 22 v1 rfl rfl) h1 M.opens_Lapi_Var
  clear hA0 hval0
  refine ((walk a0 w0 a1 w1).2 (Old W) W [v0, v1] (shp_of hsh) (fun _ _ h => h) (.cons _ _ _ _ e0 (.cons _ _ _ _ e1 .nil))).mono fun e W' ⟨v, he, hv, bel⟩ => ?_
  subst he
  cases hv
  exact ⟨_, rfl, _, _, _, [], _, [], hW', trodAll_mk1 (shut_bool Tryd.underlying4 _), hcarry W' bel, rfl, bel.frame _, fun h => by cases h⟩
theorem over : Rows.substSaysRow.holds Tryd.pinned (OpenSpec.ofChange Rows.substSaysSpec) :=
  OpenClaim.holds_of_wide 3 Tryd.f3 rfl rfl rfl rfl rfl rfl rfl ⟨rfl, rfl, rfl, rfl, rfl⟩ rfl rfl rfl rfl rfl (by kernel_rfl) Tryd.func3 (by kernel_rfl)
    (of_decide_eq_true (by kernel_rfl)) (by unfold Func.isWrapper; first | (rw [if_pos (by decide +kernel)]; kernel_rfl) | (rw [if_neg (by decide +kernel)]; exact ⟨rfl, rfl⟩))
    (fun os started H enc _ => lifted os started H enc)
theorem proved : Rows.SubstSaysCardSaid :=
  Claim7.holds_tied_plain_at .later [] [.data, .pinned] true (true, "727fc9405ee7298d6ec434026b0d7d865bb6a53395155cacbee6ffdaf2284367") true
    over (fun _ h => by cases h) (by kernel_rfl) (fun _ h => by cases h) substSays_row_tie rfl ⟨rfl, rfl⟩ (by kernel_rfl) rfl
    (fun f fn hf hfn => by
      obtain rfl : f = 3 := Option.some.inj ((show Tryd.prog.funcNamed Rows.substSaysRow.func = some 3 by kernel_rfl).symm.trans hf) |>.symm
      obtain rfl : fn = Tryd.f3 := (Option.some.inj (Tryd.func3.symm.trans hfn)).symm
      refine ⟨by kernel_rfl, fun j t ht => ?_⟩
      rw [Tryd.params3] at ht
      have hm := Array.mem_of_getElem? ht
      simp only [List.mem_toArray, List.mem_cons, List.not_mem_nil, or_false] at hm
      rcases hm with rfl | rfl
      · exact (show Tryd.prog.wantsStandIn 9 = false by kernel_rfl)
      · exact (show Tryd.prog.wantsStandIn 22 = false by kernel_rfl))
    (by kernel_rfl)
#print axioms proved
end Go.Proofs.YtibgdilkodjojaaDoor.lawSubstSays
