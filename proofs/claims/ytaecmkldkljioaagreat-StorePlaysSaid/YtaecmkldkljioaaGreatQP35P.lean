import Derived.Test.YtaecmkldkljioaaGreatQP35
set_option linter.all false
namespace Go.Proofs.YtaecmkldkljioaaGreat.M
open Go Go.Proofs.YtaecmkldkljioaaGreat.RX Go.Proofs.YtaecmkldkljioaaGreat.PL
set_option maxRecDepth 100000
theorem awake33:law33_awake 600000 = some true:=by kernel_rfl
theorem loopP33 (n:Nat) (v0:List S_api_Call) (v1:Int) (hl:v0.length ≤ 80) (hf:v0.any fewC = false) (hn:100000 ≤ n):∀ (k i:Nat) (p:PS),Inv i p → i ≤ v0.length → v0.length - i < k → ∃ q,Inv v0.length q ∧ law33_StorePlays_l1 n v0 v1 k (i:Int) (toW p) p.toS = some (.inl (toW q,q.toS))
 | 0,_,_,_,_,h=>by omega
 | k + 1,i,p,hp,h1,h2=>by
  rw [law33_StorePlays_l1]
  by_cases hi:i < v0.length
  ·have hc:fewC v0[i] = false:=by
    rw [List.any_eq_false] at hf
    simpa using hf _ (List.getElem_mem hi)
   obtain ⟨f1,f2⟩:=fewC_few hc
   have hp':=hp.step v0[i] i f1 f2
   have hb:=hp'.boxes
   have hns:=hp'.nets
   have hvs:=hp'.vols
   have hl1:=listP_len (stepP v0[i] i p).2.2.ns
   have hl2:=listP_len (stepP v0[i] i p).2.2.vs
   rw [if_pos (lt_i hi),if_pos (in_i hi),at_i hi,Do_eq n _ _ hp (by omega) f1 f2 hn,Option.bind_some,if_pos (in_i hi),Do33_eq n _ _ hp (by omega) f1 f2 hn,Option.bind_some]
   simp only [bne_self_eq_false,cond_false,beq_self_eq_true,if_true]
   rw [Boxes_eq n hp' (by omega) hn,Option.bind_some,Seen33_eq n _ (by omega) hn,Option.bind_some]
   dsimp only
   rw [sameBoxes_refl n _ (by simp; omega) (seenB_few hp') hn,Option.bind_some]
   simp only [Bool.not_true,beq_self_eq_true,if_true]
   rw [Nets_eq n hp' hn,Option.bind_some,show (toW (stepP v0[i] i p).2.2).f_Nets = (stepP v0[i] i p).2.2.ns from rfl,Listed_eq n _ (by omega) hn,Option.bind_some]
   dsimp only
   rw [sameKept_refl n _ (by omega) hn,Option.bind_some]
   simp only [Bool.not_true,beq_self_eq_true,if_true,cond_false]
   rw [Vols_eq n hp' hn,Option.bind_some,show (toW (stepP v0[i] i p).2.2).f_Vols = (stepP v0[i] i p).2.2.vs from rfl,Listed_eq n _ (by omega) hn,Option.bind_some]
   dsimp only
   rw [sameKept_refl n _ (by omega) hn,Option.bind_some]
   simp only [lett,Bool.not_true,Bool.false_eq_true,if_false]
   rw [wrap_s i (by omega)]
   exact loopP33 n v0 v1 hl hf hn k (i + 1) _ hp' (by omega) (by omega)
  ·have:i = v0.length:=by omega
   subst this
   refine ⟨p,hp,?_⟩
   rw [nlt_n]; rfl
theorem Box_eq (n:Nat) (id:Int) {k:Nat} {p:PS} (h:Inv k p) :
  store_Store_Box__o0 n id p.toS = some ((p.bs.find? (qI id)).getD Z_life_Box,(p.bs.find? (qI id)).isSome,p.toS):=by
 unfold store_Store_Box__o0
 have e:mlook p.toS.f_boxes (.inr id) = p.bs.find? (qI id):=look_toM kI _ p.bs
 rw [e]
 cases hf:p.bs.find? (qI id) with
 | none =>
  rw [clone_eq n _ (by simp),Option.bind_some,clone_eq n _ (by simp),Option.bind_some]
 | some b =>
  have hb:=h.few b (List.mem_of_find?_eq_some hf)
  rw [clone_eq n _ (by show b.f_Spec.f_Nets.length ≤ _; omega),Option.bind_some,clone_eq n _ (by show b.f_Spec.f_Vols.length ≤ _; omega),Option.bind_some]
theorem Put_eq (n:Nat) (v:S_life_Box) (p:PS) (h1:v.f_Spec.f_Nets.length ≤ 1000) (h2:v.f_Spec.f_Vols.length ≤ 1000) :
  store_Store_Put__o0 n v p.toS = some (if (p.bs.find? (qI v.f_Id)).isSome = true then (true,mkS (repl kI p.bs v) p.ns p.vs p.last) else (false,p.toS)):=by
 unfold store_Store_Put__o0
 have e:mlook p.toS.f_boxes (.inr v.f_Id) = p.bs.find? (qI v.f_Id):=look_toM kI _ p.bs
 rw [e]
 cases hf:p.bs.find? (qI v.f_Id) with
 | none=>rw [if_pos (by rfl),if_neg (by simp)]
 | some b =>
  rw [if_neg (by simp),if_pos (by rfl),clone_eq n _ (by omega),Option.bind_some,clone_eq n _ (by omega),Option.bind_some]
  show some (true,S_store_Store.mk (mput (toM kI p.bs) (kI v) v) (toM kN p.ns) (toM kN p.vs) p.last) = _
  rw [put_old kI v p.bs (by
   show (p.bs.find? (qI v.f_Id)).isSome = true
   rw [hf]; rfl)]; rfl
theorem law33_StorePlays_true (a0:List (S_api_Call)) (_:W_Lapi_Call a0) (a1:Int) (_:IntKind.min .i64 ≤ a1 ∧ a1 ≤ IntKind.max .i64):∃ n,law33_StorePlays n a0 a1 = some true:=by
 obtain ⟨n,hn⟩:∃ n,n = 600000:=⟨_,rfl⟩
 refine ⟨n,?_⟩
 have haw:law33_awake n = some true:=by rw [hn]; exact awake33
 unfold law33_StorePlays
 rw [show (80:Int) = ((80:Nat):Int) from rfl,few33 n a0 80 (by omega) (by omega),Option.bind_some]
 cases hb:(decide (a0.length ≤ 80) && !a0.any fewC) with
 | false=>rw [if_pos (by rfl),haw]; rfl
 | true =>
  rw [Bool.and_eq_true,decide_eq_true_eq,Bool.not_eq_true'] at hb
  obtain ⟨q,hq,this⟩:=loopP33 n a0 a1 hb.1 hb.2 (by omega) n 0 ⟨[],[],[],0⟩ inv0 (by omega) (by omega)
  have this:law33_StorePlays_l1 n a0 a1 n 0 (S_ref33_Store.mk [] [] [] 0) store_New_o = _:=this
  rw [if_neg (by decide)]
  simp only [lett]
  have h64:=hq.boxes
  rw [this,Option.bind_some,Sum.elim_inl]
  dsimp only
  rw [Box_eq n a1 hq,Option.bind_some,find33_eq n q a1 (by omega) (by omega),Option.bind_some]
  dsimp only
  rw [ofI_pos,haw,find_idx]
  cases hi:q.bs.findIdx? (qI a1) with
  | none =>
   simp only [Option.bind_none,Option.isSome_none,Bool.not_false,Bool.true_beq,beq_self_eq_true,Bool.false_eq_true,Bool.and_false,Bool.and_true,Bool.false_and,if_false,Option.bind_some,cond_true,cond_false,Bool.not_true,Bool.false_beq,Bool.and_self,if_true]
   rw [Put_eq n _ q (by simp) (by simp)]
   dsimp only
   rw [find_idx,hi]
   rfl
  | some i =>
   have hil:=idx_some hi
   have hid:q.bs[i].f_Id = a1:=by
    rw [List.findIdx?_eq_some_iff_getElem] at hi
    exact Sum.inr.inj (of_decide_eq_true hi.2.1)
   have hf:=hq.few _ (List.getElem_mem hil)
   have hfs:q.bs.find? (qI a1) = some q.bs[i]:=by rw [find_idx,hi,Option.bind_some,List.getElem?_eq_getElem hil]
   rw [Option.bind_some,List.getElem?_eq_getElem hil]
   simp only [Option.getD_some,Option.isSome_some,hid,beq_self_eq_true,Bool.not_true,Bool.and_self,if_true]
   rw [Put_eq n (life_Sick q.bs[i] true) q (show q.bs[i].f_Spec.f_Nets.length ≤ 1000 by omega) (show q.bs[i].f_Spec.f_Vols.length ≤ 1000 by omega),if_pos (by show (q.bs.find? (qI q.bs[i].f_Id)).isSome = true; rw [hid,hfs]; rfl),Option.bind_some]
   simp
end Go.Proofs.YtaecmkldkljioaaGreat.M
