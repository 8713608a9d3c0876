/-
  Proved: the law ProfActive (longshorelaw23) returns true for every input,and its arguments read afterwards as before. Conditions: none beyond the row's own.
-/
import Derived.Test.YtpmmhhmhckpnfaaGreatRows
import Derived.Test.YtpmmhhmhckpnfaaGreatQP23H
import Derived.Test.YtpmmhhmhckpnfaaGreatQRxAnyB
namespace Go.Proofs.YtpmmhhmhckpnfaaGreat.lawProfActive
open Go.ChangeShapes Go.WideShapes Go.ChangeAt Go.RowKit Go.Proofs.YtpmmhhmhckpnfaaGreat.RX Go.Proofs.YtpmmhhmhckpnfaaGreat.M
theorem own : ownKnob Tryz.prog.godebug=none:=by kernel_rfl
theorem laidOut : laidOutB Tryz.prog=true:=by kernel_rfl
theorem walk(a0 : af)(w0 : (sZ a0))(a1 : List (List UInt8))(w1 : (sF a1))(a2 : List (List UInt8))(w2 : (sF a2)) : aJ Tryz.prog 3 [.agg [.val (.int .i64 a0.av),.str a0.aB,.recs (α:=List UInt8) [] aR a0.aj,.tree (α:=af) (af.mk 0 [] [] []) fB eQ a0.ak],.recs (α:=List UInt8) [] aR a1,.recs (α:=List UInt8) [] aR a2] (.val (.bool true)):=by
  obtain⟨n,h⟩:=M.yH a0 w0 a1 w1 a2 w2
  exact M.zJ n a0 a1 a2 true h
set_option maxRecDepth 100000 in
theorem lifted(os : Os)(started : os.Started)(H : Type)(enc : TypeId×Value->H) :
    ReturnsInHanded {} Tryz.checked os 3 .any (Rows.profActiveSpec.pre6 enc Tryz.prog Tryz.f3 Rows.profActiveRow.domain false) (Rows.profActiveSpec.post enc Tryz.prog Tryz.f3 false true false false):=by
  refine returnsInHanded_of_change_shaped (C:=Tryz.checked) own started (by kernel_rfl) Tryz.func3
    (ChangeSpec.witness6 (enc:=enc) (C:=Tryz.checked) false ⟨#[],#[.agg #[.int .i64 0,.string ⟨#[]⟩,.slice none 0 0,.slice none 0 0],.slice none 0 0,.slice none 0 0],[]⟩ 8 (by kernel_rfl) (by kernel_rfl) (by kernel_rfl) (by kernel_rfl)) ?_
  intro W base args ds gs before hval0 hW hcnd _ hsh _
  have hval : ∀(j : Nat) t v,Tryz.f3.params[j]? = some t->args[j]? = some v->Value.okWide Tryz.prog W .any base t v:=hval0
  have hW':=hW
  obtain⟨p,q,hA0,hV,rfl,hfz,hnd⟩:=hW
  have hA : DataW.TrodAll enc Tryz.prog W 0 (fun _=>true) true Tryz.f3.params.toList args.toList ds p:=hA0
  rw[Tryz.params3] at hA hval
  have hlt : ∀x∈p,x.block<W.heap.size:=fun x hx=>by simpa using hW'.lt x (List.mem_append_left _ hx)
  have hcarry:=fun W' (hb : Below W.heap.size W W')=>Jn laidOut hb (by kernel_rfl) hlt hA
  obtain⟨v0,vs0,d0,ds0,p0,q0,hargs,rfl,rfl,h0,r0⟩:=trodAll_cons hA
  obtain⟨v1,vs1,d1,ds1,p1,q1,rfl,rfl,rfl,h1,r1⟩:=trodAll_cons r0
  obtain⟨v2,vs2,d2,ds2,p2,q2,rfl,rfl,rfl,h2,r2⟩:=trodAll_cons r1
  obtain⟨rfl,rfl,rfl⟩:=trodAll_nil r2
  obtain rfl : args=#[v0,v1,v2]:=by cases args;simp_all
  obtain⟨rfl,rfl⟩:=trodVars_none hV
  obtain⟨a0,w0,e0⟩:=Ue Tryz.underlying25 (hval 0 25 v0 rfl rfl) h0 M.Iw
  obtain⟨a1,w1,e1⟩:=N7 Tryz.underlying22 rfl (hval 1 22 v1 rfl rfl) h1 M.vR
  obtain⟨a2,w2,e2⟩:=N7 Tryz.underlying22 rfl (hval 2 22 v2 rfl rfl) h2 M.vR
  clear hA0 hval0
  refine((walk a0 w0 a1 w1 a2 w2).2 (Old W) W [v0,v1,v2] (Up hsh) (fun _ _ h=>h) (.cons _ _ _ _ e0 (.cons _ _ _ _ e1 (.cons _ _ _ _ e2 .nil)))).mono fun e W' ⟨v,he,hv,bel⟩=>?_
  subst he
  cases hv
  exact⟨_,rfl,_,_,_,[],_,[],hW',trodAll_mk1 (shut_bool Tryz.underlying4 _),hcarry W' bel,rfl,bel.frame _,fun h=>by cases h⟩
theorem over : Rows.profActiveRow.holds Tryz.pinned (OpenSpec.ofChange Rows.profActiveSpec) :=
  OpenClaim.holds_of_wide 3 Tryz.f3 rfl rfl rfl rfl rfl rfl rfl ⟨rfl,rfl,rfl,rfl,rfl⟩ rfl rfl rfl rfl rfl (by kernel_rfl) Tryz.func3 (by kernel_rfl)
    (of_decide_eq_true (by kernel_rfl)) (by unfold Func.isWrapper;first|(rw[if_pos (by decide +kernel)];kernel_rfl)|(rw[if_neg (by decide +kernel)];exact⟨rfl,rfl⟩))
    (fun os started H enc _=>lifted os started H enc)
theorem proved : Rows.ProfActiveSaid :=
  over
#print axioms proved
end Go.Proofs.YtpmmhhmhckpnfaaGreat.lawProfActive
