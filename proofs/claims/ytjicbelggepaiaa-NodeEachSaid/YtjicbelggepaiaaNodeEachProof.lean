/-
  Proved: the law NodeEach (longshorelaw08) returns true for every input, and its arguments read afterwards as before. Conditions: none beyond the row's own.
-/
import Derived.Test.YtjicbelggepaiaaRows
import Derived.Test.YtjicbelggepaiaaQP08F
import Derived.Test.YtjicbelggepaiaaQRxArgs
namespace Go.Proofs.Ytjicbelggepaiaa.lawNodeEach
open Go.ChangeShapes Go.WideShapes Go.ChangeAt Go.RowKit Go.Proofs.Ytjicbelggepaiaa.RX Go.Proofs.Ytjicbelggepaiaa.M
theorem own : ownKnob Try.prog.godebug = none := by kernel_rfl
theorem laidOut : laidOutB Try.prog = true := by kernel_rfl
theorem walk (a0 : S_api_Node) (w0 : (W_api_Node a0)) (a1 : List UInt8) (w1 : (List.length a1 ≤ maxLen)) (a2 : List UInt8) (w2 : (List.length a2 ≤ maxLen)) (a3 : List (List UInt8)) (w3 : (W_Lstring a3)) : CallsX Try.prog 3 [.agg [.val (.int .i64 a0.f_Kind), .str a0.f_Text, .recs (α := List UInt8) [] E_string a0.f_Keys, .tree (α := S_api_Node) (S_api_Node.mk 0 [] [] []) pre_S_api_Node kids_S_api_Node a0.f_Kids], .str a1, .str a2, .recs (α := List UInt8) [] E_string a3] (.val (.bool true)) := by
  obtain ⟨n, h⟩ := M.law08_NodeEach_true a0 w0 a1 w1 a2 w2 a3 w3
  exact M.ok_law08_NodeEach n a0 a1 a2 a3 true h
set_option maxRecDepth 100000 in
theorem lifted (os : Os) (started : os.Started) (H : Type) (enc : TypeId × Value → H) :
    ReturnsInHanded {} Try.checked os 3 .any (Rows.nodeEachSpec.pre6 enc Try.prog Try.f3 Rows.nodeEachRow.domain false) (Rows.nodeEachSpec.post enc Try.prog Try.f3 false true false false) := by
  refine returnsInHanded_of_change_shaped (C := Try.checked) own started (by kernel_rfl) Try.func3
    (ChangeSpec.witness6 (enc := enc) (C := Try.checked) false ⟨#[], #[.agg #[.int .i64 0, .string ⟨#[]⟩, .slice none 0 0, .slice none 0 0], .string ⟨#[]⟩, .string ⟨#[]⟩, .slice none 0 0], []⟩ 8 (by kernel_rfl) (by kernel_rfl) (by kernel_rfl) (by kernel_rfl)) ?_
  intro W base args ds gs before hval0 hW hcnd _ hsh _
  have hval : ∀ (j : Nat) t v, Try.f3.params[j]? = some t → args[j]? = some v → Value.okWide Try.prog W .any base t v := hval0
  have hW' := hW
  obtain ⟨p, q, hA0, hV, rfl, hfz, hnd⟩ := hW
  have hA : DataW.TrodAll enc Try.prog W 0 (fun _ => true) true Try.f3.params.toList args.toList ds p := hA0
  rw [Try.params3] at hA hval
  have hlt : ∀ x ∈ p, x.block < W.heap.size := fun x hx => by simpa using hW'.lt x (List.mem_append_left _ hx)
  have hcarry := fun W' (hb : Below W.heap.size W W') => carry_all laidOut hb (by kernel_rfl) hlt hA
  obtain ⟨v0, vs0, d0, ds0, p0, q0, hargs, rfl, rfl, h0, r0⟩ := trodAll_cons hA
  obtain ⟨v1, vs1, d1, ds1, p1, q1, rfl, rfl, rfl, h1, r1⟩ := trodAll_cons r0
  obtain ⟨v2, vs2, d2, ds2, p2, q2, rfl, rfl, rfl, h2, r2⟩ := trodAll_cons r1
  obtain ⟨v3, vs3, d3, ds3, p3, q3, rfl, rfl, rfl, h3, r3⟩ := trodAll_cons r2
  obtain ⟨rfl, rfl, rfl⟩ := trodAll_nil r3
  obtain rfl : args = #[v0, v1, v2, v3] := by cases args; simp_all
  obtain ⟨rfl, rfl⟩ := trodVars_none hV
  obtain ⟨a0, w0, e0⟩ := arg_agg Try.underlying25 (hval 0 25 v0 rfl rfl) h0 M.opens_api_Node
  obtain ⟨a1, w1, e1⟩ := arg_one Try.underlying9 rfl (hval 1 9 v1 rfl rfl) h1 M.opens_string
  obtain ⟨a2, w2, e2⟩ := arg_one Try.underlying9 rfl (hval 2 9 v2 rfl rfl) h2 M.opens_string
  obtain ⟨a3, w3, e3⟩ := arg_one Try.underlying22 rfl (hval 3 22 v3 rfl rfl) h3 M.opens_Lstring
  clear hA0 hval0
  refine ((walk a0 w0 a1 w1 a2 w2 a3 w3).2 (Old W) W [v0, v1, v2, v3] (shp_of hsh) (fun _ _ h => h) (.cons _ _ _ _ e0 (.cons _ _ _ _ e1 (.cons _ _ _ _ e2 (.cons _ _ _ _ e3 .nil))))).mono fun e W' ⟨v, he, hv, bel⟩ => ?_
  subst he
  cases hv
  exact ⟨_, rfl, _, _, _, [], _, [], hW', trodAll_mk1 (shut_bool Try.underlying4 _), hcarry W' bel, rfl, bel.frame _, fun h => by cases h⟩
theorem over : Rows.nodeEachRow.holds Try.pinned (OpenSpec.ofChange Rows.nodeEachSpec) :=
  OpenClaim.holds_of_wide 3 Try.f3 rfl rfl rfl rfl rfl rfl rfl ⟨rfl, rfl, rfl, rfl, rfl⟩ rfl rfl rfl rfl rfl (by kernel_rfl) Try.func3 (by kernel_rfl)
    (of_decide_eq_true (by kernel_rfl)) (by unfold Func.isWrapper; first | (rw [if_pos (by decide +kernel)]; kernel_rfl) | (rw [if_neg (by decide +kernel)]; exact ⟨rfl, rfl⟩))
    (fun os started H enc _ => lifted os started H enc)
theorem proved : Rows.NodeEachSaid :=
  over
#print axioms proved
end Go.Proofs.Ytjicbelggepaiaa.lawNodeEach
