/-
  Proved: the law GraphOrder (longshorelaw24) returns true for every input,and its arguments read afterwards as before. Conditions: none beyond the row's own.
-/
import Derived.Test.YtpmmhhmhckpnfaaDoorRows
import Derived.Test.YtpmmhhmhckpnfaaDoorTie
import Derived.Test.YtpmmhhmhckpnfaaDoorCards
import Derived.Test.YtpmmhhmhckpnfaaDoorQRxAnyB
import Derived.Test.YtpmmhhmhckpnfaaDoorQLoop
namespace Go.Proofs.YtpmmhhmhckpnfaaDoor.lawGraphOrder
open Go.ChangeShapes Go.WideShapes Go.ChangeAt Go.RowKit Go.Proofs.YtpmmhhmhckpnfaaDoor.RX Go.Proofs.YtpmmhhmhckpnfaaDoor.M
theorem own : ownKnob Tryd.prog.godebug=none:=by kernel_rfl
theorem laidOut : laidOutB Tryd.prog=true:=by kernel_rfl
theorem walk(a0 : aD)(w0 : (oz a0)) : bq Tryd.prog 3 [.agg [.str a0.aS,.recs (α:=aF) (aF.mk [] [] [] [] [] [] [] [] [] 0 (gx.mk [] 0 0 0) 0 0 0 0) au a0.av,.recs (α:=List UInt8) [] aO a0.bZ,.recs (α:=List UInt8) [] aO a0.j6]] (.val (.bool true)):=by
  obtain⟨n,h⟩:=M.qI a0 w0
  exact M.rM n a0 true h
theorem laidAt(os : Os)(args : Array Value) : laidMetH Tryd.prog Rows.graphOrderRow.laid ((World.laidAll Tryd.prog os Rows.graphOrderRow.laid).forCall (fun _ _=>0) ⟨#[],args,[]⟩).memory:=by
  rw[MakeChecks.laidMetH_plain _ _ _ (by kernel_rfl)]
  exact laidMet_laidAll args (by kernel_rfl) (by kernel_rfl)
set_option maxRecDepth 100000 in
theorem lifted(os : Os)(started : os.Started)(H : Type)(enc : TypeId×Value->H) :
    ReturnsInHanded {} Tryd.checked os 3 .any (fun w args=>(Rows.graphOrderSpec.pre enc Tryd.prog Tryd.f3 Rows.graphOrderRow.domain false w args/\laidMetH Tryd.prog Rows.graphOrderRow.laid w)/\sizedMet enc Tryd.prog Tryd.f3 (OpenSpec.ofChange Rows.graphOrderSpec) false w args) (Rows.graphOrderSpec.post enc Tryd.prog Tryd.f3 false true false false):=by
  refine yI (C:=Tryd.checked) own started (by kernel_rfl) Tryd.func3
    (ChangeSpec.witness_at (enc:=enc) (C:=Tryd.checked) (os:=os) (X:=fun w _=>laidMetH Tryd.prog Rows.graphOrderRow.laid w) false (World.laidAll Tryd.prog os Rows.graphOrderRow.laid) #[.agg #[.string ⟨#[]⟩,.slice none 0 0,.slice none 0 0,.slice none 0 0]] 8 (World.laidAll_os _ _ _) (by kernel_rfl) (by kernel_rfl) (by kernel_rfl) (by kernel_rfl) (by kernel_rfl) (laidAt os _)) ?_
  intro W base args ds gs before hval0 hW hsh
  have hval : ∀(j : Nat) t v,Tryd.f3.params[j]? = some t->args[j]? = some v->Value.okWide Tryd.prog W .any base t v:=hval0
  have hW':=hW
  obtain⟨p,q,hA0,hV,rfl,hfz,hnd⟩:=hW
  have hA : DataW.TrodAll enc Tryd.prog W 0 (fun _=>true) true Tryd.f3.params.toList args.toList ds p:=hA0
  rw[Tryd.params3] at hA hval
  have hlt : ∀x∈p,x.block<W.heap.size:=fun x hx=>by simpa using hW'.lt x (List.mem_append_left _ hx)
  have hcarry:=fun W' (hb : Below W.heap.size W W')=>xQ laidOut hb (by kernel_rfl) hlt hA
  obtain⟨v0,vs0,d0,ds0,p0,q0,hargs,rfl,rfl,h0,r0⟩:=trodAll_cons hA
  obtain⟨rfl,rfl,rfl⟩:=trodAll_nil r0
  obtain rfl : args=#[v0]:=by cases args;simp_all
  obtain⟨rfl,rfl⟩:=trodVars_none hV
  obtain⟨a0,w0,e0⟩:=FD Tryd.underlying25 (hval 0 25 v0 rfl rfl) h0 M.tP
  clear hA0 hval0
  refine((walk a0 w0).2 (Old W) W [v0] (FU hsh) (fun _ _ h=>h) (.cons _ _ _ _ e0 .nil)).mono fun e W' ⟨v,he,hv,bel⟩=>?_
  subst he
  cases hv
  exact⟨_,rfl,_,_,_,[],_,[],hW',trodAll_mk1 (shut_bool Tryd.underlying4 _),hcarry W' bel,rfl,bel.frame _,fun h=>by cases h⟩
theorem over : Rows.graphOrderRow.holds Tryd.pinned (OpenSpec.ofChange Rows.graphOrderSpec) :=
  OpenClaim.holds_of_wide 3 Tryd.f3 rfl rfl rfl rfl rfl rfl rfl ⟨rfl,rfl,rfl,rfl,rfl⟩ rfl rfl rfl rfl rfl (by kernel_rfl) Tryd.func3 (by kernel_rfl)
    (of_decide_eq_true (by kernel_rfl)) (by unfold Func.isWrapper;first|(rw[if_pos (by decide +kernel)];kernel_rfl)|(rw[if_neg (by decide +kernel)];exact⟨rfl,rfl⟩))
    (fun os started H enc _=>lifted os started H enc)
theorem proved : Rows.GraphOrderCardSaid :=
  Claim7.holds_tied_plain_at .later [] [.data,.pinned] true (true,"3b2d46d71c52162369990156f95ab9a3582e49283de4ce0dfd6c97770e94d255") false
    over (fun _ h=>by cases h) (by kernel_rfl) (fun _ h=>by cases h) graphOrder_row_tie rfl ⟨rfl,rfl⟩ (by kernel_rfl) rfl
    (fun f fn hf hfn=>by
      obtain rfl : f=3:=Option.some.inj ((show Tryd.prog.funcNamed Rows.graphOrderRow.func=some 3 by kernel_rfl).symm.trans hf) |>.symm
      obtain rfl : fn=Tryd.f3:=(Option.some.inj (Tryd.func3.symm.trans hfn)).symm
      refine⟨by kernel_rfl,fun j t ht=>?_⟩
      rw[Tryd.params3] at ht
      have hm:=Array.mem_of_getElem? ht
      simp only[List.mem_toArray,List.mem_cons,List.not_mem_nil,or_false] at hm
      subst hm
      exact(show Tryd.prog.wantsStandIn 25=false by kernel_rfl))
    (by kernel_rfl)
#print axioms proved
end Go.Proofs.YtpmmhhmhckpnfaaDoor.lawGraphOrder
