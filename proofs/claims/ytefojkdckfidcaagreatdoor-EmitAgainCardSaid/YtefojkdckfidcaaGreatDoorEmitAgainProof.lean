/-
  Proved: the law EmitAgain (longshorelaw11) returns true for every input,and its arguments read afterwards as before. Conditions: none beyond the row's own.
-/
import Derived.Test.YtefojkdckfidcaaGreatDoorRows
import Derived.Test.YtefojkdckfidcaaGreatDoorTie
import Derived.Test.YtefojkdckfidcaaGreatDoorCards
import Derived.Test.YtefojkdckfidcaaGreatDoorQRxAnyB
import Derived.Test.YtefojkdckfidcaaGreatDoorQPB11E
namespace Go.Proofs.YtefojkdckfidcaaGreatDoor.lawEmitAgain
open Go.ChangeShapes Go.WideShapes Go.ChangeAt Go.RowKit Go.Proofs.YtefojkdckfidcaaGreatDoor.RX Go.Proofs.YtefojkdckfidcaaGreatDoor.M
theorem own : ownKnob Tryz.prog.godebug=none:=by kernel_rfl
theorem laidOut : laidOutB Tryz.prog=true:=by kernel_rfl
theorem walk(a0 : List UInt8)(w0 : (List.length a0<=maxLen))(a1 : List UInt8)(w1 : (List.length a1<=maxLen)) : bC Tryz.prog 7 [.str a0,.str a1] (.val (.bool true)):=by
  obtain⟨n,h⟩:=M.vM a0 w0 a1 w1
  exact M.xI n a0 a1 true h
theorem laidAt(os : Os)(args : Array Value) : laidMetH Tryz.prog Rows.emitAgainRow.laid ((World.laidAll Tryz.prog os Rows.emitAgainRow.laid).forCall (fun _ _=>0) ⟨#[],args,[]⟩).memory:=by
  rw[MakeChecks.laidMetH_plain _ _ _ (by kernel_rfl)]
  exact laidMet_laidAll args (by kernel_rfl) (by kernel_rfl)
set_option maxRecDepth 100000 in
theorem lifted(os : Os)(started : os.Started)(H : Type)(enc : TypeId×Value->H) :
    ReturnsInHanded {} Tryz.checked os 7 .any (fun w args=>(Rows.emitAgainSpec.pre enc Tryz.prog Tryz.f7 Rows.emitAgainRow.domain false w args/\laidMetH Tryz.prog Rows.emitAgainRow.laid w)/\sizedMet enc Tryz.prog Tryz.f7 (OpenSpec.ofChange Rows.emitAgainSpec) false w args) (Rows.emitAgainSpec.post enc Tryz.prog Tryz.f7 false true false false):=by
  refine Fg (C:=Tryz.checked) own started (by kernel_rfl) Tryz.func7
    (ChangeSpec.witness_at (enc:=enc) (C:=Tryz.checked) (os:=os) (X:=fun w _=>laidMetH Tryz.prog Rows.emitAgainRow.laid w) false (World.laidAll Tryz.prog os Rows.emitAgainRow.laid) #[.string ⟨#[]⟩,.string ⟨#[]⟩] 8 (World.laidAll_os _ _ _) (by kernel_rfl) (by kernel_rfl) (by kernel_rfl) (by kernel_rfl) (by kernel_rfl) (laidAt os _)) ?_
  intro W base args ds gs before hval0 hW hsh
  have hval : ∀(j : Nat) t v,Tryz.f7.params[j]? = some t->args[j]? = some v->Value.okWide Tryz.prog W .any base t v:=hval0
  have hW':=hW
  obtain⟨p,q,hA0,hV,rfl,hfz,hnd⟩:=hW
  have hA : DataW.TrodAll enc Tryz.prog W 0 (fun _=>true) true Tryz.f7.params.toList args.toList ds p:=hA0
  rw[Tryz.params7] at hA hval
  have hlt : ∀x∈p,x.block<W.heap.size:=fun x hx=>by simpa using hW'.lt x (List.mem_append_left _ hx)
  have hcarry:=fun W' (hb : Below W.heap.size W W')=>Dk laidOut hb (by kernel_rfl) hlt hA
  obtain⟨v0,vs0,d0,ds0,p0,q0,hargs,rfl,rfl,h0,r0⟩:=trodAll_cons hA
  obtain⟨v1,vs1,d1,ds1,p1,q1,rfl,rfl,rfl,h1,r1⟩:=trodAll_cons r0
  obtain⟨rfl,rfl,rfl⟩:=trodAll_nil r1
  obtain rfl : args=#[v0,v1]:=by cases args;simp_all
  obtain⟨rfl,rfl⟩:=trodVars_none hV
  obtain⟨a0,w0,e0⟩:=Iu Tryz.underlying9 rfl (hval 0 9 v0 rfl rfl) h0 M.xd
  obtain⟨a1,w1,e1⟩:=Iu Tryz.underlying9 rfl (hval 1 9 v1 rfl rfl) h1 M.xd
  clear hA0 hval0
  refine((walk a0 w0 a1 w1).2 (Old W) W [v0,v1] (QG hsh) (fun _ _ h=>h) (.cons _ _ _ _ e0 (.cons _ _ _ _ e1 .nil))).mono fun e W' ⟨v,he,hv,bel⟩=>?_
  subst he
  cases hv
  exact⟨_,rfl,_,_,_,[],_,[],hW',trodAll_mk1 (shut_bool Tryz.underlying4 _),hcarry W' bel,rfl,bel.frame _,fun h=>by cases h⟩
theorem over : Rows.emitAgainRow.holds Tryz.pinned (OpenSpec.ofChange Rows.emitAgainSpec) :=
  OpenClaim.holds_of_wide 7 Tryz.f7 rfl rfl rfl rfl rfl rfl rfl ⟨rfl,rfl,rfl,rfl,rfl⟩ rfl rfl rfl rfl rfl (by kernel_rfl) Tryz.func7 (by kernel_rfl)
    (of_decide_eq_true (by kernel_rfl)) (by unfold Func.isWrapper;first|(rw[if_pos (by decide +kernel)];kernel_rfl)|(rw[if_neg (by decide +kernel)];exact⟨rfl,rfl⟩))
    (fun os started H enc _=>lifted os started H enc)
theorem proved : Rows.EmitAgainCardSaid :=
  Claim7.holds_tied_plain_at .later [] [.data,.pinned] true (true,"0eab7e9a9cda182f4136751df56f3fee8661f2fbf300824f1b435920f80c3dbb") false
    over (fun _ h=>by cases h) (by kernel_rfl) (fun _ h=>by cases h) emitAgain_row_tie rfl ⟨rfl,rfl⟩ (by kernel_rfl) rfl
    (fun f fn hf hfn=>by
      obtain rfl : f=7:=Option.some.inj ((show Tryz.prog.funcNamed Rows.emitAgainRow.func=some 7 by kernel_rfl).symm.trans hf) |>.symm
      obtain rfl : fn=Tryz.f7:=(Option.some.inj (Tryz.func7.symm.trans hfn)).symm
      refine⟨by kernel_rfl,fun j t ht=>?_⟩
      rw[Tryz.params7] at ht
      have hm:=Array.mem_of_getElem? ht
      simp only[List.mem_toArray,List.mem_cons,List.not_mem_nil,or_false] at hm
      rcases hm with rfl|rfl
      · exact(show Tryz.prog.wantsStandIn 9=false by kernel_rfl)
      · exact(show Tryz.prog.wantsStandIn 9=false by kernel_rfl))
    (by kernel_rfl)
#print axioms proved
end Go.Proofs.YtefojkdckfidcaaGreatDoor.lawEmitAgain
