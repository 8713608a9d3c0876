/-
  Proved: the law SubstNodes (longshorelaw14) returns true for every input, and its arguments read afterwards as before. Conditions: none beyond the row's own.
-/
import Derived.Test.YtibgdilkodjojaaGreatDoorRows
import Derived.Test.YtibgdilkodjojaaGreatDoorTie
import Derived.Test.YtibgdilkodjojaaGreatDoorCards
import Derived.Test.YtibgdilkodjojaaGreatDoorQRxTied
import Derived.Test.YtibgdilkodjojaaGreatDoorQPG14H
import Derived.Test.YtibgdilkodjojaaGreatDoorQRxArgs
namespace Go.Proofs.YtibgdilkodjojaaGreatDoor.lawSubstNodes
open Go.ChangeShapes Go.WideShapes Go.ChangeAt Go.RowKit Go.Proofs.YtibgdilkodjojaaGreatDoor.RX Go.Proofs.YtibgdilkodjojaaGreatDoor.M
theorem own : ownKnob Tryz.prog.godebug = none := by kernel_rfl
theorem laidOut : laidOutB Tryz.prog = true := by kernel_rfl
theorem walk (a0 : S_api_Node) (w0 : (W_api_Node a0)) (a1 : List (S_api_Var)) (w1 : (W_Lapi_Var a1)) : CallsX Tryz.prog 3 [.agg [.val (.int .i64 a0.f_Kind), .str a0.f_Text, .recs (α := List UInt8) [] E_string a0.f_Keys, .tree (α := S_api_Node) (S_api_Node.mk 0 [] [] []) pre_S_api_Node kids_S_api_Node a0.f_Kids], .recs (α := S_api_Var) (S_api_Var.mk [] []) E_api_Var a1] (.val (.bool true)) := by
  obtain ⟨n, h⟩ := M.law14_SubstNodes_true a0 w0 a1 w1
  exact M.ok_law14_SubstNodes n a0 a1 true h
theorem laidAt (os : Os) (args : Array Value) : laidMetH Tryz.prog Rows.substNodesRow.laid ((World.laidAll Tryz.prog os Rows.substNodesRow.laid).forCall (fun _ _ => 0) ⟨#[], args, []⟩).memory := by
  rw [MakeChecks.laidMetH_plain _ _ _ (by kernel_rfl)]
  exact laidMet_laidAll args (by kernel_rfl) (by kernel_rfl)
set_option maxRecDepth 100000 in
theorem lifted (os : Os) (started : os.Started) (H : Type) (enc : TypeId × Value → H) :
    ReturnsInHanded {} Tryz.checked os 3 .any (fun w args => (Rows.substNodesSpec.pre enc Tryz.prog Tryz.f3 Rows.substNodesRow.domain false w args ∧ laidMetH Tryz.prog Rows.substNodesRow.laid w) ∧ sizedMet enc Tryz.prog Tryz.f3 (OpenSpec.ofChange Rows.substNodesSpec) false w args) (Rows.substNodesSpec.post enc Tryz.prog Tryz.f3 false true false false) := by
  refine returns_tied (C := Tryz.checked) own started (by kernel_rfl) Tryz.func3
    (ChangeSpec.witness_at (enc := enc) (C := Tryz.checked) (os := os) (X := fun w _ => laidMetH Tryz.prog Rows.substNodesRow.laid w) false (World.laidAll Tryz.prog os Rows.substNodesRow.laid) #[.agg #[.int .i64 0, .string ⟨#[]⟩, .slice none 0 0, .slice none 0 0], .slice none 0 0] 8 (World.laidAll_os _ _ _) (by kernel_rfl) (by kernel_rfl) (by kernel_rfl) (by kernel_rfl) (by kernel_rfl) (laidAt os _)) ?_
  intro W base args ds gs before hval0 hW hsh
  have hval : ∀ (j : Nat) t v, Tryz.f3.params[j]? = some t → args[j]? = some v → Value.okWide Tryz.prog W .any base t v := hval0
  have hW' := hW
  obtain ⟨p, q, hA0, hV, rfl, hfz, hnd⟩ := hW
  have hA : DataW.TrodAll enc Tryz.prog W 0 (fun _ => true) true Tryz.f3.params.toList args.toList ds p := hA0
  rw [Tryz.params3] at hA hval
  have hlt : ∀ x ∈ p, x.block < W.heap.size := fun x hx => by simpa using hW'.lt x (List.mem_append_left _ hx)
  have hcarry := fun W' (hb : Below W.heap.size W W') => carry_all laidOut hb (by kernel_rfl) hlt hA
  obtain ⟨v0, vs0, d0, ds0, p0, q0, hargs, rfl, rfl, h0, r0⟩ := trodAll_cons hA
  obtain ⟨v1, vs1, d1, ds1, p1, q1, rfl, rfl, rfl, h1, r1⟩ := trodAll_cons r0
  obtain ⟨rfl, rfl, rfl⟩ := trodAll_nil r1
  obtain rfl : args = #[v0, v1] := by cases args; simp_all
  obtain ⟨rfl, rfl⟩ := trodVars_none hV
  obtain ⟨a0, w0, e0⟩ := arg_agg Tryz.underlying25 (hval 0 25 v0 rfl rfl) h0 M.opens_api_Node
  obtain ⟨a1, w1, e1⟩ := arg_one Tryz.underlying26 rfl (hval 1 26 v1 rfl rfl) h1 M.opens_Lapi_Var
  clear hA0 hval0
  refine ((walk a0 w0 a1 w1).2 (Old W) W [v0, v1] (shp_of hsh) (fun _ _ h => h) (.cons _ _ _ _ e0 (.cons _ _ _ _ e1 .nil))).mono fun e W' ⟨v, he, hv, bel⟩ => ?_
  subst he
  cases hv
  exact ⟨_, rfl, _, _, _, [], _, [], hW', trodAll_mk1 (shut_bool Tryz.underlying4 _), hcarry W' bel, rfl, bel.frame _, fun h => by cases h⟩
theorem over : Rows.substNodesRow.holds Tryz.pinned (OpenSpec.ofChange Rows.substNodesSpec) :=
  OpenClaim.holds_of_wide 3 Tryz.f3 rfl rfl rfl rfl rfl rfl rfl ⟨rfl, rfl, rfl, rfl, rfl⟩ rfl rfl rfl rfl rfl (by kernel_rfl) Tryz.func3 (by kernel_rfl)
    (of_decide_eq_true (by kernel_rfl)) (by unfold Func.isWrapper; first | (rw [if_pos (by decide +kernel)]; kernel_rfl) | (rw [if_neg (by decide +kernel)]; exact ⟨rfl, rfl⟩))
    (fun os started H enc _ => lifted os started H enc)
theorem proved : Rows.SubstNodesCardSaid :=
  Claim7.holds_tied_plain_at .later [] [.data, .pinned] true (true, "cc838ab0f54f6ec1b3621818b4f9fa06df73e14c39b5060ebb98f065ef082b40") true
    over (fun _ h => by cases h) (by kernel_rfl) (fun _ h => by cases h) substNodes_row_tie rfl ⟨rfl, rfl⟩ (by kernel_rfl) rfl
    (fun f fn hf hfn => by
      obtain rfl : f = 3 := Option.some.inj ((show Tryz.prog.funcNamed Rows.substNodesRow.func = some 3 by kernel_rfl).symm.trans hf) |>.symm
      obtain rfl : fn = Tryz.f3 := (Option.some.inj (Tryz.func3.symm.trans hfn)).symm
      refine ⟨by kernel_rfl, fun j t ht => ?_⟩
      rw [Tryz.params3] at ht
      have hm := Array.mem_of_getElem? ht
      simp only [List.mem_toArray, List.mem_cons, List.not_mem_nil, or_false] at hm
      rcases hm with rfl | rfl
      · exact (show Tryz.prog.wantsStandIn 25 = false by kernel_rfl)
      · exact (show Tryz.prog.wantsStandIn 26 = false by kernel_rfl))
    (by kernel_rfl)
#print axioms proved
end Go.Proofs.YtibgdilkodjojaaGreatDoor.lawSubstNodes
