/-
  Proved: the law EnvOver (longshorelaw12) returns true for every input, and its arguments read afterwards as before. Conditions: none beyond the row's own.
-/
import Derived.Test.YtibgdilkodjojaaDoorRows
import Derived.Test.YtibgdilkodjojaaDoorTie
import Derived.Test.YtibgdilkodjojaaDoorCards
import Derived.Test.YtibgdilkodjojaaDoorQRxTied
import Derived.Test.YtibgdilkodjojaaDoorQP12E
import Derived.Test.YtibgdilkodjojaaDoorQRxArgs
namespace Go.Proofs.YtibgdilkodjojaaDoor.lawEnvOver
open Go.ChangeShapes Go.WideShapes Go.ChangeAt Go.RowKit Go.Proofs.YtibgdilkodjojaaDoor.RX Go.Proofs.YtibgdilkodjojaaDoor.M
theorem own : ownKnob Tryd.prog.godebug = none := by kernel_rfl
theorem laidOut : laidOutB Tryd.prog = true := by kernel_rfl
theorem walk (a0 : List (S_api_Var)) (w0 : (W_Lapi_Var a0)) (a1 : List (S_api_Var)) (w1 : (W_Lapi_Var a1)) (a2 : List UInt8) (w2 : (List.length a2 ≤ maxLen)) : CallsX Tryd.prog 6 [.recs (α := S_api_Var) (S_api_Var.mk [] []) E_api_Var a0, .recs (α := S_api_Var) (S_api_Var.mk [] []) E_api_Var a1, .str a2] (.val (.bool true)) := by
  obtain ⟨n, h⟩ := M.law12_EnvOver_true a0 w0 a1 w1 a2 w2
  exact M.ok_law12_EnvOver n a0 a1 a2 true h
theorem laidAt (os : Os) (args : Array Value) : laidMetH Tryd.prog Rows.envOverRow.laid ((World.laidAll Tryd.prog os Rows.envOverRow.laid).forCall (fun _ _ => 0) ⟨#[], args, []⟩).memory := by
  rw [MakeChecks.laidMetH_plain _ _ _ (by kernel_rfl)]
  exact laidMet_laidAll args (by kernel_rfl) (by kernel_rfl)
set_option maxRecDepth 100000 in
theorem lifted (os : Os) (started : os.Started) (H : Type) (enc : TypeId × Value → H) :
    ReturnsInHanded {} Tryd.checked os 6 .any (fun w args => (Rows.envOverSpec.pre enc Tryd.prog Tryd.f6 Rows.envOverRow.domain false w args ∧ laidMetH Tryd.prog Rows.envOverRow.laid w) ∧ sizedMet enc Tryd.prog Tryd.f6 (OpenSpec.ofChange Rows.envOverSpec) false w args) (Rows.envOverSpec.post enc Tryd.prog Tryd.f6 false true false false) := by
  refine returns_tied (C := Tryd.checked) own started (by kernel_rfl) Tryd.func6
    (ChangeSpec.witness_at (enc := enc) (C := Tryd.checked) (os := os) (X := fun w _ => laidMetH Tryd.prog Rows.envOverRow.laid w) false (World.laidAll Tryd.prog os Rows.envOverRow.laid) #[.slice none 0 0, .slice none 0 0, .string ⟨#[]⟩] 8 (World.laidAll_os _ _ _) (by kernel_rfl) (by kernel_rfl) (by kernel_rfl) (by kernel_rfl) (by kernel_rfl) (laidAt os _)) ?_
  intro W base args ds gs before hval0 hW hsh
  have hval : ∀ (j : Nat) t v, Tryd.f6.params[j]? = some t → args[j]? = some v → Value.okWide Tryd.prog W .any base t v := hval0
  have hW' := hW
  obtain ⟨p, q, hA0, hV, rfl, hfz, hnd⟩ := hW
  have hA : DataW.TrodAll enc Tryd.prog W 0 (fun _ => true) true Tryd.f6.params.toList args.toList ds p := hA0
  rw [Tryd.params6] at hA hval
  have hlt : ∀ x ∈ p, x.block < W.heap.size := fun x hx => by simpa using hW'.lt x (List.mem_append_left _ hx)
  have hcarry := fun W' (hb : Below W.heap.size W W') => carry_all laidOut hb (by kernel_rfl) hlt hA
  obtain ⟨v0, vs0, d0, ds0, p0, q0, hargs, rfl, rfl, h0, r0⟩ := trodAll_cons hA
  obtain ⟨v1, vs1, d1, ds1, p1, q1, rfl, rfl, rfl, h1, r1⟩ := trodAll_cons r0
  obtain ⟨v2, vs2, d2, ds2, p2, q2, rfl, rfl, rfl, h2, r2⟩ := trodAll_cons r1
  obtain ⟨rfl, rfl, rfl⟩ := trodAll_nil r2
  obtain rfl : args = #[v0, v1, v2] := by cases args; simp_all
  obtain ⟨rfl, rfl⟩ := trodVars_none hV
  obtain ⟨a0, w0, e0⟩ := arg_one Tryd.underlying22 rfl (hval 0 22 v0 rfl rfl) h0 M.opens_Lapi_Var
  obtain ⟨a1, w1, e1⟩ := arg_one Tryd.underlying22 rfl (hval 1 22 v1 rfl rfl) h1 M.opens_Lapi_Var
  obtain ⟨a2, w2, e2⟩ := arg_one Tryd.underlying9 rfl (hval 2 9 v2 rfl rfl) h2 M.opens_string
  clear hA0 hval0
  refine ((walk a0 w0 a1 w1 a2 w2).2 (Old W) W [v0, v1, v2] (shp_of hsh) (fun _ _ h => h) (.cons _ _ _ _ e0 (.cons _ _ _ _ e1 (.cons _ _ _ _ e2 .nil)))).mono fun e W' ⟨v, he, hv, bel⟩ => ?_
  subst he
  cases hv
  exact ⟨_, rfl, _, _, _, [], _, [], hW', trodAll_mk1 (shut_bool Tryd.underlying4 _), hcarry W' bel, rfl, bel.frame _, fun h => by cases h⟩
theorem over : Rows.envOverRow.holds Tryd.pinned (OpenSpec.ofChange Rows.envOverSpec) :=
  OpenClaim.holds_of_wide 6 Tryd.f6 rfl rfl rfl rfl rfl rfl rfl ⟨rfl, rfl, rfl, rfl, rfl⟩ rfl rfl rfl rfl rfl (by kernel_rfl) Tryd.func6 (by kernel_rfl)
    (of_decide_eq_true (by kernel_rfl)) (by unfold Func.isWrapper; first | (rw [if_pos (by decide +kernel)]; kernel_rfl) | (rw [if_neg (by decide +kernel)]; exact ⟨rfl, rfl⟩))
    (fun os started H enc _ => lifted os started H enc)
theorem proved : Rows.EnvOverCardSaid :=
  Claim7.holds_tied_plain_at .later [] [.data, .pinned] true (true, "727fc9405ee7298d6ec434026b0d7d865bb6a53395155cacbee6ffdaf2284367") true
    over (fun _ h => by cases h) (by kernel_rfl) (fun _ h => by cases h) envOver_row_tie rfl ⟨rfl, rfl⟩ (by kernel_rfl) rfl
    (fun f fn hf hfn => by
      obtain rfl : f = 6 := Option.some.inj ((show Tryd.prog.funcNamed Rows.envOverRow.func = some 6 by kernel_rfl).symm.trans hf) |>.symm
      obtain rfl : fn = Tryd.f6 := (Option.some.inj (Tryd.func6.symm.trans hfn)).symm
      refine ⟨by kernel_rfl, fun j t ht => ?_⟩
      rw [Tryd.params6] at ht
      have hm := Array.mem_of_getElem? ht
      simp only [List.mem_toArray, List.mem_cons, List.not_mem_nil, or_false] at hm
      rcases hm with rfl | rfl | rfl
      · exact (show Tryd.prog.wantsStandIn 22 = false by kernel_rfl)
      · exact (show Tryd.prog.wantsStandIn 22 = false by kernel_rfl)
      · exact (show Tryd.prog.wantsStandIn 9 = false by kernel_rfl))
    (by kernel_rfl)
#print axioms proved
end Go.Proofs.YtibgdilkodjojaaDoor.lawEnvOver
