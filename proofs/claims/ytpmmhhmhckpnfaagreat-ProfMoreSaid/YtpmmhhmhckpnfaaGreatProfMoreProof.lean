/-
  Proved: the law ProfMore (longshorelaw23) returns true for every input,and its arguments read afterwards as before. Conditions: none beyond the row's own.
-/
import Derived.Test.YtpmmhhmhckpnfaaGreatRows
import Derived.Test.YtpmmhhmhckpnfaaGreatQP23I
import Derived.Test.YtpmmhhmhckpnfaaGreatQRxAnyB
namespace Go.Proofs.YtpmmhhmhckpnfaaGreat.lawProfMore
open Go.ChangeShapes Go.WideShapes Go.ChangeAt Go.RowKit Go.Proofs.YtpmmhhmhckpnfaaGreat.RX Go.Proofs.YtpmmhhmhckpnfaaGreat.M
theorem own : ownKnob Tryz.prog.godebug=none:=by kernel_rfl
theorem laidOut : laidOutB Tryz.prog=true:=by kernel_rfl
theorem walk(a0 : af)(w0 : (sj a0))(a1 : List (List UInt8))(w1 : (rU a1))(a2 : List (List UInt8))(w2 : (rU a2))(a3 : List UInt8)(w3 : (List.length a3<=maxLen)) : aJ Tryz.prog 4 [.agg [.val (.int .i64 a0.av),.str a0.aC,.recs (α:=List UInt8) [] aW a0.ak,.tree (α:=af) (af.mk 0 [] [] []) fF eQ a0.aj],.recs (α:=List UInt8) [] aW a1,.recs (α:=List UInt8) [] aW a2,.str a3] (.val (.bool true)):=by
  obtain⟨n,h⟩:=M.zr a0 w0 a1 w1 a2 w2 a3 w3
  exact M.BW n a0 a1 a2 a3 true h
set_option maxRecDepth 100000 in
theorem lifted(os : Os)(started : os.Started)(H : Type)(enc : TypeId×Value->H) :
    ReturnsInHanded {} Tryz.checked os 4 .any (Rows.profMoreSpec.pre6 enc Tryz.prog Tryz.f4 Rows.profMoreRow.domain false) (Rows.profMoreSpec.post enc Tryz.prog Tryz.f4 false true false false):=by
  refine returnsInHanded_of_change_shaped (C:=Tryz.checked) own started (by kernel_rfl) Tryz.func4
    (ChangeSpec.witness6 (enc:=enc) (C:=Tryz.checked) false ⟨#[],#[.agg #[.int .i64 0,.string ⟨#[]⟩,.slice none 0 0,.slice none 0 0],.slice none 0 0,.slice none 0 0,.string ⟨#[]⟩],[]⟩ 8 (by kernel_rfl) (by kernel_rfl) (by kernel_rfl) (by kernel_rfl)) ?_
  intro W base args ds gs before hval0 hW hcnd _ hsh _
  have hval : ∀(j : Nat) t v,Tryz.f4.params[j]? = some t->args[j]? = some v->Value.okWide Tryz.prog W .any base t v:=hval0
  have hW':=hW
  obtain⟨p,q,hA0,hV,rfl,hfz,hnd⟩:=hW
  have hA : DataW.TrodAll enc Tryz.prog W 0 (fun _=>true) true Tryz.f4.params.toList args.toList ds p:=hA0
  rw[Tryz.params4] at hA hval
  have hlt : ∀x∈p,x.block<W.heap.size:=fun x hx=>by simpa using hW'.lt x (List.mem_append_left _ hx)
  have hcarry:=fun W' (hb : Below W.heap.size W W')=>Jh laidOut hb (by kernel_rfl) hlt hA
  obtain⟨v0,vs0,d0,ds0,p0,q0,hargs,rfl,rfl,h0,r0⟩:=trodAll_cons hA
  obtain⟨v1,vs1,d1,ds1,p1,q1,rfl,rfl,rfl,h1,r1⟩:=trodAll_cons r0
  obtain⟨v2,vs2,d2,ds2,p2,q2,rfl,rfl,rfl,h2,r2⟩:=trodAll_cons r1
  obtain⟨v3,vs3,d3,ds3,p3,q3,rfl,rfl,rfl,h3,r3⟩:=trodAll_cons r2
  obtain⟨rfl,rfl,rfl⟩:=trodAll_nil r3
  obtain rfl : args=#[v0,v1,v2,v3]:=by cases args;simp_all
  obtain⟨rfl,rfl⟩:=trodVars_none hV
  obtain⟨a0,w0,e0⟩:=Tf Tryz.underlying25 (hval 0 25 v0 rfl rfl) h0 M.Iz
  obtain⟨a1,w1,e1⟩:=Hl Tryz.underlying22 rfl (hval 1 22 v1 rfl rfl) h1 M.vh
  obtain⟨a2,w2,e2⟩:=Hl Tryz.underlying22 rfl (hval 2 22 v2 rfl rfl) h2 M.vh
  obtain⟨a3,w3,e3⟩:=Hl Tryz.underlying9 rfl (hval 3 9 v3 rfl rfl) h3 M.vS
  clear hA0 hval0
  refine((walk a0 w0 a1 w1 a2 w2 a3 w3).2 (Old W) W [v0,v1,v2,v3] (UF hsh) (fun _ _ h=>h) (.cons _ _ _ _ e0 (.cons _ _ _ _ e1 (.cons _ _ _ _ e2 (.cons _ _ _ _ e3 .nil))))).mono fun e W' ⟨v,he,hv,bel⟩=>?_
  subst he
  cases hv
  exact⟨_,rfl,_,_,_,[],_,[],hW',trodAll_mk1 (shut_bool Tryz.underlying4 _),hcarry W' bel,rfl,bel.frame _,fun h=>by cases h⟩
theorem over : Rows.profMoreRow.holds Tryz.pinned (OpenSpec.ofChange Rows.profMoreSpec) :=
  OpenClaim.holds_of_wide 4 Tryz.f4 rfl rfl rfl rfl rfl rfl rfl ⟨rfl,rfl,rfl,rfl,rfl⟩ rfl rfl rfl rfl rfl (by kernel_rfl) Tryz.func4 (by kernel_rfl)
    (of_decide_eq_true (by kernel_rfl)) (by unfold Func.isWrapper;first|(rw[if_pos (by decide +kernel)];kernel_rfl)|(rw[if_neg (by decide +kernel)];exact⟨rfl,rfl⟩))
    (fun os started H enc _=>lifted os started H enc)
theorem proved : Rows.ProfMoreSaid :=
  over
#print axioms proved
end Go.Proofs.YtpmmhhmhckpnfaaGreat.lawProfMore
