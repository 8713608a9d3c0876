/-
  Proved: the law ScriptWrites (longshorelaw45) returns true for every input, and its arguments read afterwards as before. Conditions: none beyond the row's own.
-/
import Derived.Test.YtjjlpomfnfipbaaDoorRows
import Derived.Test.YtjjlpomfnfipbaaDoorTie
import Derived.Test.YtjjlpomfnfipbaaDoorCards
import Derived.Test.YtjjlpomfnfipbaaDoorQRxTied
import Derived.Test.YtjjlpomfnfipbaaDoorQP45H
import Derived.Test.YtjjlpomfnfipbaaDoorQRxArgs
namespace Go.Proofs.YtjjlpomfnfipbaaDoor.lawScriptWrites
open Go.ChangeShapes Go.WideShapes Go.ChangeAt Go.RowKit Go.Proofs.YtjjlpomfnfipbaaDoor.RX Go.Proofs.YtjjlpomfnfipbaaDoor.M
theorem own : ownKnob Tryd.prog.godebug = none := by kernel_rfl
theorem laidOut : laidOutB Tryd.prog = true := by kernel_rfl
theorem walk (a0 : S_ref45_Step) (w0 : (W_ref45_Step a0)) (a1 : S_ref45_Step) (w1 : (W_ref45_Step a1)) : CallsX Tryd.prog 3 [.agg [.val (.int .i64 a0.f_Kind), .val (.int .i64 a0.f_N), .val (.int .i64 a0.f_M), .val (.int .i64 a0.f_Command.f_Kind), .recs (α := List UInt8) [] E_string a0.f_Command.f_Services, .val (.int .i64 a0.f_Command.f_Count), .val (.bool a0.f_Command.f_Orphans), .val (.bool a0.f_Command.f_Volumes), .val (.int .i64 a0.f_Command.f_Timeout), .val (.int .i64 a0.f_Command.f_Retries), .val (.int .i64 a0.f_Call.f_Kind), .str a0.f_Call.f_Name, .val (.int .i64 a0.f_Call.f_Id), .str a0.f_Call.f_Spec.f_Name, .str a0.f_Call.f_Spec.f_Project, .str a0.f_Call.f_Spec.f_Service, .val (.int .i64 a0.f_Call.f_Spec.f_Number), .str a0.f_Call.f_Spec.f_Hash, .recs (α := List UInt8) [] E_string a0.f_Call.f_Spec.f_Nets, .recs (α := List UInt8) [] E_string a0.f_Call.f_Spec.f_Vols, .str a0.f_Call.f_Spec.f_Health.f_Test, .val (.int .i64 a0.f_Call.f_Spec.f_Health.f_Every), .val (.int .i64 a0.f_Call.f_Spec.f_Health.f_Start), .val (.int .i64 a0.f_Call.f_Spec.f_Health.f_Retries), .val (.int .i64 a0.f_Call.f_Spec.f_Restart), .val (.int .i64 a0.f_Call.f_Spec.f_Tries)], .agg [.val (.int .i64 a1.f_Kind), .val (.int .i64 a1.f_N), .val (.int .i64 a1.f_M), .val (.int .i64 a1.f_Command.f_Kind), .recs (α := List UInt8) [] E_string a1.f_Command.f_Services, .val (.int .i64 a1.f_Command.f_Count), .val (.bool a1.f_Command.f_Orphans), .val (.bool a1.f_Command.f_Volumes), .val (.int .i64 a1.f_Command.f_Timeout), .val (.int .i64 a1.f_Command.f_Retries), .val (.int .i64 a1.f_Call.f_Kind), .str a1.f_Call.f_Name, .val (.int .i64 a1.f_Call.f_Id), .str a1.f_Call.f_Spec.f_Name, .str a1.f_Call.f_Spec.f_Project, .str a1.f_Call.f_Spec.f_Service, .val (.int .i64 a1.f_Call.f_Spec.f_Number), .str a1.f_Call.f_Spec.f_Hash, .recs (α := List UInt8) [] E_string a1.f_Call.f_Spec.f_Nets, .recs (α := List UInt8) [] E_string a1.f_Call.f_Spec.f_Vols, .str a1.f_Call.f_Spec.f_Health.f_Test, .val (.int .i64 a1.f_Call.f_Spec.f_Health.f_Every), .val (.int .i64 a1.f_Call.f_Spec.f_Health.f_Start), .val (.int .i64 a1.f_Call.f_Spec.f_Health.f_Retries), .val (.int .i64 a1.f_Call.f_Spec.f_Restart), .val (.int .i64 a1.f_Call.f_Spec.f_Tries)]] (.val (.bool true)) := by
  obtain ⟨n, h⟩ := M.law45_ScriptWrites_true a0 w0 a1 w1
  exact M.ok_law45_ScriptWrites n a0 a1 true h
theorem laidAt (os : Os) (args : Array Value) : laidMetH Tryd.prog Rows.scriptWritesRow.laid ((World.laidAll Tryd.prog os Rows.scriptWritesRow.laid).forCall (fun _ _ => 0) ⟨#[], args, []⟩).memory := by
  rw [MakeChecks.laidMetH_plain _ _ _ (by kernel_rfl)]
  exact laidMet_laidAll args (by kernel_rfl) (by kernel_rfl)
set_option maxRecDepth 100000 in
theorem lifted (os : Os) (started : os.Started) (H : Type) (enc : TypeId × Value → H) :
    ReturnsInHanded {} Tryd.checked os 3 .any (fun w args => (Rows.scriptWritesSpec.pre enc Tryd.prog Tryd.f3 Rows.scriptWritesRow.domain false w args ∧ laidMetH Tryd.prog Rows.scriptWritesRow.laid w) ∧ sizedMet enc Tryd.prog Tryd.f3 (OpenSpec.ofChange Rows.scriptWritesSpec) false w args) (Rows.scriptWritesSpec.post enc Tryd.prog Tryd.f3 false true false false) := by
  refine returns_tied (C := Tryd.checked) own started (by kernel_rfl) Tryd.func3
    (ChangeSpec.witness_at (enc := enc) (C := Tryd.checked) (os := os) (X := fun w _ => laidMetH Tryd.prog Rows.scriptWritesRow.laid w) false (World.laidAll Tryd.prog os Rows.scriptWritesRow.laid) #[.agg #[.int .i64 0, .int .i64 0, .int .i64 0, .int .i64 0, .slice none 0 0, .int .i64 0, .bool false, .bool false, .int .i64 0, .int .i64 0, .int .i64 0, .string ⟨#[]⟩, .int .i64 0, .string ⟨#[]⟩, .string ⟨#[]⟩, .string ⟨#[]⟩, .int .i64 0, .string ⟨#[]⟩, .slice none 0 0, .slice none 0 0, .string ⟨#[]⟩, .int .i64 0, .int .i64 0, .int .i64 0, .int .i64 0, .int .i64 0], .agg #[.int .i64 0, .int .i64 0, .int .i64 0, .int .i64 0, .slice none 0 0, .int .i64 0, .bool false, .bool false, .int .i64 0, .int .i64 0, .int .i64 0, .string ⟨#[]⟩, .int .i64 0, .string ⟨#[]⟩, .string ⟨#[]⟩, .string ⟨#[]⟩, .int .i64 0, .string ⟨#[]⟩, .slice none 0 0, .slice none 0 0, .string ⟨#[]⟩, .int .i64 0, .int .i64 0, .int .i64 0, .int .i64 0, .int .i64 0]] 8 (World.laidAll_os _ _ _) (by kernel_rfl) (by kernel_rfl) (by kernel_rfl) (by kernel_rfl) (by kernel_rfl) (laidAt os _)) ?_
  intro W base args ds gs before hval0 hW hsh
  have hval : ∀ (j : Nat) t v, Tryd.f3.params[j]? = some t → args[j]? = some v → Value.okWide Tryd.prog W .any base t v := hval0
  have hW' := hW
  obtain ⟨p, q, hA0, hV, rfl, hfz, hnd⟩ := hW
  have hA : DataW.TrodAll enc Tryd.prog W 0 (fun _ => true) true Tryd.f3.params.toList args.toList ds p := hA0
  rw [Tryd.params3] at hA hval
  have hlt : ∀ x ∈ p, x.block < W.heap.size := fun x hx => by simpa using hW'.lt x (List.mem_append_left _ hx)
  have hcarry := fun W' (hb : Below W.heap.size W W') => carry_all laidOut hb (by kernel_rfl) hlt hA
  obtain ⟨v0, vs0, d0, ds0, p0, q0, hargs, rfl, rfl, h0, r0⟩ := trodAll_cons hA
  obtain ⟨v1, vs1, d1, ds1, p1, q1, rfl, rfl, rfl, h1, r1⟩ := trodAll_cons r0
  obtain ⟨rfl, rfl, rfl⟩ := trodAll_nil r1
  obtain rfl : args = #[v0, v1] := by cases args; simp_all
  obtain ⟨rfl, rfl⟩ := trodVars_none hV
  obtain ⟨a0, w0, e0⟩ := arg_agg Tryd.underlying32 (hval 0 32 v0 rfl rfl) h0 M.opens_ref45_Step
  obtain ⟨a1, w1, e1⟩ := arg_agg Tryd.underlying32 (hval 1 32 v1 rfl rfl) h1 M.opens_ref45_Step
  clear hA0 hval0
  refine ((walk a0 w0 a1 w1).2 (Old W) W [v0, v1] (shp_of hsh) (fun _ _ h => h) (.cons _ _ _ _ e0 (.cons _ _ _ _ e1 .nil))).mono fun e W' ⟨v, he, hv, bel⟩ => ?_
  subst he
  cases hv
  exact ⟨_, rfl, _, _, _, [], _, [], hW', trodAll_mk1 (shut_bool Tryd.underlying4 _), hcarry W' bel, rfl, bel.frame _, fun h => by cases h⟩
theorem over : Rows.scriptWritesRow.holds Tryd.pinned (OpenSpec.ofChange Rows.scriptWritesSpec) :=
  OpenClaim.holds_of_wide 3 Tryd.f3 rfl rfl rfl rfl rfl rfl rfl ⟨rfl, rfl, rfl, rfl, rfl⟩ rfl rfl rfl rfl rfl (by kernel_rfl) Tryd.func3 (by kernel_rfl)
    (of_decide_eq_true (by kernel_rfl)) (by unfold Func.isWrapper; first | (rw [if_pos (by decide +kernel)]; kernel_rfl) | (rw [if_neg (by decide +kernel)]; exact ⟨rfl, rfl⟩))
    (fun os started H enc _ => lifted os started H enc)
theorem proved : Rows.ScriptWritesCardSaid :=
  Claim7.holds_tied_plain_at .later [] [.data, .pinned] true (true, "97bd917b56d315241b85d7d4090499bac637bd7af6d0149f1b47f7af8490a455") false
    over (fun _ h => by cases h) (by kernel_rfl) (fun _ h => by cases h) scriptWrites_row_tie rfl ⟨rfl, rfl⟩ (by kernel_rfl) rfl
    (fun f fn hf hfn => by
      obtain rfl : f = 3 := Option.some.inj ((show Tryd.prog.funcNamed Rows.scriptWritesRow.func = some 3 by kernel_rfl).symm.trans hf) |>.symm
      obtain rfl : fn = Tryd.f3 := (Option.some.inj (Tryd.func3.symm.trans hfn)).symm
      refine ⟨by kernel_rfl, fun j t ht => ?_⟩
      rw [Tryd.params3] at ht
      have hm := Array.mem_of_getElem? ht
      simp only [List.mem_toArray, List.mem_cons, List.not_mem_nil, or_false] at hm
      rcases hm with rfl | rfl
      · exact (show Tryd.prog.wantsStandIn 32 = false by kernel_rfl)
      · exact (show Tryd.prog.wantsStandIn 32 = false by kernel_rfl))
    (by kernel_rfl)
#print axioms proved
end Go.Proofs.YtjjlpomfnfipbaaDoor.lawScriptWrites
