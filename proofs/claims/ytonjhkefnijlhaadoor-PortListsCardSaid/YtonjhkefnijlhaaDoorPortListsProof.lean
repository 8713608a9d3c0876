/-
  Proved: the law PortLists (longshorelaw16) returns true for every input, and its arguments read afterwards as before. Conditions: none beyond the row's own.
-/
import Derived.Test.YtonjhkefnijlhaaDoorRows
import Derived.Test.YtonjhkefnijlhaaDoorTie
import Derived.Test.YtonjhkefnijlhaaDoorCards
import Derived.Test.YtonjhkefnijlhaaDoorQRxTied
import Derived.Test.YtonjhkefnijlhaaDoorQP16M
import Derived.Test.YtonjhkefnijlhaaDoorQRxArgs
namespace Go.Proofs.YtonjhkefnijlhaaDoor.lawPortLists
open Go.ChangeShapes Go.WideShapes Go.ChangeAt Go.RowKit Go.Proofs.YtonjhkefnijlhaaDoor.RX Go.Proofs.YtonjhkefnijlhaaDoor.M
theorem own : ownKnob Tryd.prog.godebug = none := by kernel_rfl
theorem laidOut : laidOutB Tryd.prog = true := by kernel_rfl
theorem walk (a0 : List (S_api_Port)) (w0 : (W_Lapi_Port a0)) : CallsX Tryd.prog 8 [.recs (α := S_api_Port) (S_api_Port.mk [] 0 0 []) E_api_Port a0] (.val (.bool true)) := by
  obtain ⟨n, h⟩ := M.law16_PortLists_true a0 w0
  exact M.ok_law16_PortLists n a0 true h
theorem laidAt (os : Os) (args : Array Value) : laidMetH Tryd.prog Rows.portListsRow.laid ((World.laidAll Tryd.prog os Rows.portListsRow.laid).forCall (fun _ _ => 0) ⟨#[], args, []⟩).memory := by
  rw [MakeChecks.laidMetH_plain _ _ _ (by kernel_rfl)]
  exact laidMet_laidAll args (by kernel_rfl) (by kernel_rfl)
set_option maxRecDepth 100000 in
theorem lifted (os : Os) (started : os.Started) (H : Type) (enc : TypeId × Value → H) :
    ReturnsInHanded {} Tryd.checked os 8 .any (fun w args => (Rows.portListsSpec.pre enc Tryd.prog Tryd.f8 Rows.portListsRow.domain false w args ∧ laidMetH Tryd.prog Rows.portListsRow.laid w) ∧ sizedMet enc Tryd.prog Tryd.f8 (OpenSpec.ofChange Rows.portListsSpec) false w args) (Rows.portListsSpec.post enc Tryd.prog Tryd.f8 false true false false) := by
  refine returns_tied (C := Tryd.checked) own started (by kernel_rfl) Tryd.func8
    (ChangeSpec.witness_at (enc := enc) (C := Tryd.checked) (os := os) (X := fun w _ => laidMetH Tryd.prog Rows.portListsRow.laid w) false (World.laidAll Tryd.prog os Rows.portListsRow.laid) #[.slice none 0 0] 8 (World.laidAll_os _ _ _) (by kernel_rfl) (by kernel_rfl) (by kernel_rfl) (by kernel_rfl) (by kernel_rfl) (laidAt os _)) ?_
  intro W base args ds gs before hval0 hW hsh
  have hval : ∀ (j : Nat) t v, Tryd.f8.params[j]? = some t → args[j]? = some v → Value.okWide Tryd.prog W .any base t v := hval0
  have hW' := hW
  obtain ⟨p, q, hA0, hV, rfl, hfz, hnd⟩ := hW
  have hA : DataW.TrodAll enc Tryd.prog W 0 (fun _ => true) true Tryd.f8.params.toList args.toList ds p := hA0
  rw [Tryd.params8] at hA hval
  have hlt : ∀ x ∈ p, x.block < W.heap.size := fun x hx => by simpa using hW'.lt x (List.mem_append_left _ hx)
  have hcarry := fun W' (hb : Below W.heap.size W W') => carry_all laidOut hb (by kernel_rfl) hlt hA
  obtain ⟨v0, vs0, d0, ds0, p0, q0, hargs, rfl, rfl, h0, r0⟩ := trodAll_cons hA
  obtain ⟨rfl, rfl, rfl⟩ := trodAll_nil r0
  obtain rfl : args = #[v0] := by cases args; simp_all
  obtain ⟨rfl, rfl⟩ := trodVars_none hV
  obtain ⟨a0, w0, e0⟩ := arg_one Tryd.underlying39 rfl (hval 0 39 v0 rfl rfl) h0 M.opens_Lapi_Port
  clear hA0 hval0
  refine ((walk a0 w0).2 (Old W) W [v0] (shp_of hsh) (fun _ _ h => h) (.cons _ _ _ _ e0 .nil)).mono fun e W' ⟨v, he, hv, bel⟩ => ?_
  subst he
  cases hv
  exact ⟨_, rfl, _, _, _, [], _, [], hW', trodAll_mk1 (shut_bool Tryd.underlying4 _), hcarry W' bel, rfl, bel.frame _, fun h => by cases h⟩
theorem over : Rows.portListsRow.holds Tryd.pinned (OpenSpec.ofChange Rows.portListsSpec) :=
  OpenClaim.holds_of_wide 8 Tryd.f8 rfl rfl rfl rfl rfl rfl rfl ⟨rfl, rfl, rfl, rfl, rfl⟩ rfl rfl rfl rfl rfl (by kernel_rfl) Tryd.func8 (by kernel_rfl)
    (of_decide_eq_true (by kernel_rfl)) (by unfold Func.isWrapper; first | (rw [if_pos (by decide +kernel)]; kernel_rfl) | (rw [if_neg (by decide +kernel)]; exact ⟨rfl, rfl⟩))
    (fun os started H enc _ => lifted os started H enc)
theorem proved : Rows.PortListsCardSaid :=
  Claim7.holds_tied_plain_at .later [] [.data, .pinned] true (true, "5eb9c46e767a48d3a739f11d2e76c87f017eac24ce638182b1357fbdc1d0be55") false
    over (fun _ h => by cases h) (by kernel_rfl) (fun _ h => by cases h) portLists_row_tie rfl ⟨rfl, rfl⟩ (by kernel_rfl) rfl
    (fun f fn hf hfn => by
      obtain rfl : f = 8 := Option.some.inj ((show Tryd.prog.funcNamed Rows.portListsRow.func = some 8 by kernel_rfl).symm.trans hf) |>.symm
      obtain rfl : fn = Tryd.f8 := (Option.some.inj (Tryd.func8.symm.trans hfn)).symm
      refine ⟨by kernel_rfl, fun j t ht => ?_⟩
      rw [Tryd.params8] at ht
      have hm := Array.mem_of_getElem? ht
      simp only [List.mem_toArray, List.mem_cons, List.not_mem_nil, or_false] at hm
      subst hm
      exact (show Tryd.prog.wantsStandIn 39 = false by kernel_rfl))
    (by kernel_rfl)
#print axioms proved
end Go.Proofs.YtonjhkefnijlhaaDoor.lawPortLists
