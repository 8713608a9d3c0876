import Derived.Test.YtibgdilkodjojaaGreatDoorQRxAnyD
import Derived.Test.YtibgdilkodjojaaGreatDoorQRxOrd
set_option linter.all false
namespace Go.Proofs.YtibgdilkodjojaaGreatDoor.RX
open Go.RowKit
def nrp (Q:Exit → Act → World → Prop):Exit → Act → World → Prop
 | .normal,a,w=>Q .normal a w
 | .panic c,a,w=>Q (.panic c) a w
 | _,_,_=>False
theorem nrp_out {Q:Exit → Act → World → Prop}:¬ LetsOut (nrp Q):=fun ⟨_,_,h⟩=>h
theorem XC.nrp {ro:Option Nat} {P:Program} {c:Code} {Q:Exit → Act → World → Prop} {a:Act} {w:World} (h:XC ro P c (RX.nrp Q) a w):XC ro P c Q a w :=
 wpIn_mono h fun e a w h=>by cases e <;> first | exact h | exact h.elim
theorem ndB_nd {l:List Oper} (h:l.all ndB = true):∀ o ∈ l,o.nd:=fun o ho c hc=>by
 have:=List.all_eq_true.1 h o ho
 rw [ndB,hc] at this; cases this
def notIface (P:Program) (T:Nat):Bool:=match P.underlying T with | some (.interface _)=>false | some _=>true | none=>false
theorem notIface_spec {P:Program} {T:Nat} (h:notIface P T = true):∃ u,P.underlying T = some u ∧ ∀ x,u ≠ .interface x:=by
 unfold notIface at h
 split at h
 ·cases h
 ·rename_i u hne he
  exact ⟨u,he,fun x e=>hne x (by rw [e])⟩
 ·cases h
section
variable (C:Nat → List D → D → Prop) (CB:Nat → List D → Boxes → D → Boxes → Prop) (Γ:Nat → Option TI) (nt:Nat) (orc:List (Nat × D)) (orb:List (Nat × CBd)) (l:List Oper)
def evPan (PO:Nat → List D → List (Option (Nat × List D)) → Prop) (c:CBd) (fz:List (Nat × List Nat)) (i:Nat) (K:List (Nat × D)) (L:Boxes) (kk kl:List Nat):Option (List (Nat × D) × Boxes × List Prop) :=
 if l.all ndB && cbOK c then
  match l[i]? with
  | some o =>
   match o.guard,evOps C CB Γ nt orc orb l fz (l.take i) 0 (startES K L) with
   | none,some s=>(match evOp Γ s.L (getOp s.K []) o.dst o.op with | some (.call f args,[])=>(match keepK s.K kk,keepL (afterB c s.L) kl with | some K',some L'=>if (K'.all fun x=>(newKeys c).all fun k=>!(D.names k x.2)) = true then some (K',L',s.obl ++ [PO f args (found c s.L)]) else none | _,_=>none) | _=>none)
   | _,_=>none
  | none=>none
 else none
def evPanE (fz:List (Nat × List Nat)) (K:List (Nat × D)) (L:Boxes) (kl:List Nat):Option (D × Boxes × List Prop × Nat) :=
 if l.all ndB then
  match l[l.length - 2]?,l[l.length - 1]? with
  | some o1,some o2 =>
   match o1.op,o1.guard,o1.dst,o2.op,o2.guard,evOps C CB Γ nt orc orb l fz (l.take (l.length - 2)) 0 (startES K L) with
   | .makeInterface T (.tmp s),none,some t,.panic (.tmp t'),none,some st =>
    (match keepK st.K [s],keepL st.L kl with | some [(_,d)],some L'=>if t = t' ∧ t < nt ∧ 2 ≤ l.length then some (d,L',st.obl,T) else none | _,_=>none)
   | _,_,_,_,_,_=>none
  | _,_=>none
 else none
end
section
variable {P:Program} {Γ:Nat → Option TI} {nt:Nat} {F0:Fz} {w0:Pt P} {K K':List (Nat × D)} {L L':Boxes} {Q:Exit → Act → World → Prop}
def PanOb (P:Program) (pv:Value) (c:CBd) (f:Nat) (args:List D) (fd:List (Option (Nat × List D))):Prop :=
 PanB P f c.ds c.Lin pv c.Lout ∧ args = D.subs (renF never c.ren) c.ds ∧ fd = c.Lin.map fun x=>some (x.2.1,D.subs (renF never c.ren) x.2.2)
theorem Wp.regionPan (hΓ:ΓOK P Γ) {id:Nat} {l:List Oper} (i:Nat) (fz:List (Nat × List Nat)) (orc:List (Nat × D)) (orb:List (Nat × CBd)) (c:CBd) (kk kl:List Nat) {pv:Value} {ob:List Prop}
  (h:evPan (CX P) (CallsB P) Γ nt orc orb l (PanOb P pv c) c fz i K L kk kl = some (K',L',ob)) (hob:AllP ob)
  (hn:To nt F0 w0 K' L' (.panic [{ v:=pv,recovered:=false }]) Q):Wp P nt F0 w0 K L (.region id l.toArray false) Q:=by
 rintro a w ⟨B,F,hb,hd,hs,hK⟩
 unfold evPan at h
 split at h
 rotate_left
 ·cases h
 rename_i hnd
 rw [Bool.and_eq_true] at hnd
 obtain ⟨hnd,hok⟩:=hnd
 split at h
 rotate_left
 ·cases h
 rename_i o ho
 split at h
 rotate_left
 ·cases h
 rename_i s hg hs'
 split at h
 rotate_left
 ·cases h
 rename_i f args he
 split at h
 rotate_left
 ·cases h
 rename_i K2 L2 hkk hl
 split at h
 rotate_left
 ·cases h
 rename_i hkn
 cases h
 have hc:PanOb P pv c f args (found c s.L):=AllP.mem hob _ (List.mem_append_right _ (List.mem_singleton.2 rfl))
 refine XC.nrp (wpIn_region_lit (list_in nrp_out (ndB_nd hnd) ?_))
 have hil:i < l.length:=(List.getElem?_eq_some_iff.1 ho).1
 have hsplit:l = l.take i ++ (o :: l.drop (i + 1)):=by
  have h1:l.drop i = o :: l.drop (i + 1):=by
   rw [List.drop_eq_getElem_cons hil]
   congr 1
   rw [List.getElem?_eq_getElem hil] at ho
   exact Option.some.inj ho
  rw [← h1,List.take_append_drop]
 have key:wpList P l.toArray (nrp Q) (l.take i ++ (o :: l.drop (i + 1))) a w:=by
  refine evOps_soundL hΓ (o :: l.drop (i + 1)) (l.take i) 0 (fun j hj=>?_) hs' (fun p hp=>AllP.mem hob p (List.mem_append_left _ hp)) (start_inv hb hd hs hK) fun B' F' a' w' hi=>?_
  ·have hj':j < i:=by rw [List.length_take] at hj; omega
   rw [Nat.zero_add,List.getElem?_take,if_pos hj']
  ·unfold wpList
   have hw:Region.wanted o (yielded l.toArray a'.tmps) = true:=by simp [Region.wanted,hg]
   rw [if_pos hw]
   refine .inl ?_
   have hh:holds s.tab [] = true:=rfl
   refine wp_panB (evOp_sound hΓ hi.base (fun _ _ _ _ _ _ _ h=>mem_of_lookup h) (getOp_ok hi.ents hh) (fun _ _ _ _ h=>mem_of_lookup h) he (by simp)) hi.base hok hc fun w2 F2 B2 h1 h2 h3=>?_
   refine hn a' w2 ⟨B2,F2,h1.sub fun _ _ _ h=>keepL_mem hl _ h,hi.defers,hi.size,fun x hx=>?_⟩
   obtain ⟨e,he,q1,q2,q3⟩:=keepK_mem hkk x hx
   obtain ⟨v,q4,q5⟩:=(hi.ents e he).1 (by rw [q3]; rfl)
   rw [q1] at q4; rw [q2] at q5
   refine ⟨v,q4,(q5.grow h2).reenv fun k hk=>h3 k ?_⟩
   cases hcc:(newKeys c).contains k with
   | false=>rfl
   | true =>
    rw [List.contains_iff_mem] at hcc
    have:=List.all_eq_true.1 (List.all_eq_true.1 hkn x hx) k hcc
    rw [hk] at this; cases this
 rw [← hsplit] at key
 exact key
theorem keepK1 {ops:List Oper} {s:ES} {S:Nat → Prop} {a:Act} {w:World} {B F} {q sl:Nat} {d:D} (hi:InvR nt ops F0 w0 B F s S a w) (hg:keepK s.K [sl] = some [(q,d)]):∃ v,a.tmps[sl]? = some v ∧ Rep F w B d v:=by
 have hq:q = sl:=by
  unfold keepK at hg
  split at hg
  ·split at hg
   ·simp only [Option.some.injEq,List.cons.injEq,Prod.mk.injEq] at hg
    exact hg.1.1.symm
   ·cases hg
  ·cases hg
 subst hq
 obtain ⟨e,he,h1,h2,h3⟩:=keepK_mem hg (q,d) List.mem_cons_self
 have:=(hi.ents e he).1 (by rw [h3]; rfl)
 rw [h1,h2] at this
 exact this
theorem panE_sound {ops:List Oper} {o1 o2:Oper} {T s t:Nat} {u:TypeDesc} {v:Value} {a:Act} {w:World} {K:List (Nat × D)} (hs1:o1.op = .makeInterface T (.tmp s)) (hg1:o1.guard = none) (hd1:o1.dst = some t) (hs2:o2.op = .panic (.tmp t)) (hg2:o2.guard = none) (ht:t < a.tmps.size)
  (hu:P.underlying T = some u) (hni:∀ x,u ≠ .interface x) (hv:a.tmps[s]? = some v) (hn:∀ a',a'.defers = a.defers → a'.tmps.size = a.tmps.size → Q (.panic [{ v:=.iface T v,recovered:=false }]) a' w):wpList P ops.toArray (nrp Q) [o1,o2] a w:=by
 have hw1:Region.wanted o1 (yielded ops.toArray a.tmps) = true:=by simp [Region.wanted,hg1]
 unfold wpList
 rw [if_pos hw1]
 refine .inl ?_
 have e1:(execOp a.eval o1).run P w = .ok (.value (.iface T v)) w:=by
  unfold execOp
  simp only [hs1,eval_tmp hv,Sem.run_bind,Instr.makeInterface,run_underlying hu,Result.andThen_ok]
  cases u <;> first | rfl | exact absurd rfl (hni _)
 unfold Oper.wp
 rw [e1,Oper.upon_value,hd1]
 have hv2:(a.put (some t) (.iface T v)).tmps[t]? = some (.iface T v):=put_same ht
 have hw2:Region.wanted o2 (yielded ops.toArray (a.put (some t) (.iface T v)).tmps) = true:=by simp [Region.wanted,hg2]
 unfold wpList
 rw [if_pos hw2]
 refine .inl ?_
 have e2:(execOp (a.put (some t) (.iface T v)).eval o2).run P w = .halt (.panic (.iface T v)) w:=by
  unfold execOp
  simp only [hs2,eval_tmp hv2,Sem.run_bind,run_panic_iface]
  rfl
 unfold Oper.wp
 rw [e2,Oper.upon_panic]
 exact hn _ (by rw [put_defers]) (by rw [put_size])
theorem Wp.regionPanE (hΓ:ΓOK P Γ) {id:Nat} {l:List Oper} (fz:List (Nat × List Nat)) (orc:List (Nat × D)) (orb:List (Nat × CBd)) (kl:List Nat) {pv:Value} {d:D} {ob:List Prop} {T:Nat}
  (h:evPanE (CX P) (CallsB P) Γ nt orc orb l fz K L kl = some (d,L',ob,T)) (hob:AllP ob) (hT:notIface P T = true) (hd:∀ (F:Fz) (w:World) (B:Env) (v:Value),Rep F w B d v → v = pv)
  (hn:To nt F0 w0 [] L' (.panic [{ v:=.iface T pv,recovered:=false }]) Q):Wp P nt F0 w0 K L (.region id l.toArray false) Q:=by
 obtain ⟨u,hu,hni⟩:=notIface_spec hT
 rintro a w ⟨B,F,hb,hdf,hs,hK⟩
 unfold evPanE at h
 split at h
 rotate_left
 ·cases h
 rename_i hnd
 split at h
 rotate_left
 ·cases h
 rename_i o1 o2 ho1 ho2
 split at h
 rotate_left
 ·cases h
 rename_i T' sl t t' st h1 h2 h3 h4 h5 h6
 split at h
 rotate_left
 ·cases h
 rename_i q d' L2 hg hkl
 split at h
 rotate_left
 ·cases h
 rename_i hc
 cases h
 obtain ⟨rfl,htl,hlen⟩:=hc
 refine XC.nrp (wpIn_region_lit (list_in nrp_out (ndB_nd hnd) ?_))
 have hsplit:l = l.take (l.length - 2) ++ [o1,o2]:=by
  have e1:l.length - 2 < l.length:=by omega
  have h1:l.drop (l.length - 2) = [o1,o2]:=by
   rw [List.drop_eq_getElem_cons e1,List.drop_eq_getElem_cons (by omega:l.length - 2 + 1 < l.length),List.drop_eq_nil_of_le (by omega)]
   rw [List.getElem?_eq_getElem e1] at ho1
   have e2:l.length - 1 = l.length - 2 + 1:=by omega
   rw [e2,List.getElem?_eq_getElem (by omega)] at ho2
   rw [Option.some.inj ho1,Option.some.inj ho2]
  rw [← h1,List.take_append_drop]
 have key:wpList P l.toArray (nrp Q) (l.take (l.length - 2) ++ [o1,o2]) a w:=by
  refine evOps_soundL hΓ [o1,o2] (l.take (l.length - 2)) 0 (fun j hj=>?_) h6 (AllP.mem hob) (start_inv hb hdf hs hK) fun B' F' a' w' hi=>?_
  ·have hj':j < l.length - 2:=by rw [List.length_take] at hj; omega
   rw [Nat.zero_add,List.getElem?_take,if_pos hj']
  ·obtain ⟨v,hv',hr⟩:=keepK1 hi hg
   have:=hd _ _ _ _ hr
   subst this
   exact panE_sound (K:=K) h1 h2 h3 h4 h5 (by rw [hi.size]; exact htl) hu hni hv' fun a2 h7 h8=>hn a2 w' ⟨B',F',hi.base.sub fun _ _ _ h=>keepL_mem hkl _ h,h7.trans hi.defers,h8.trans hi.size,fun x hx=>by simp at hx⟩
 rw [← hsplit] at key
 exact key
def evPanS (C:Nat → List D → D → Prop) (Γ:Nat → Option TI) (nt:Nat) (orc:List (Nat × D)) (l:List Oper) (K:List (Nat × D)) (L0:Boxes) (kl:List Nat):Option (D × Boxes × List Prop × Nat) :=
 let n:=l.length - 2
 if l.all ndB && dstsOK (l.take n) && edgesOK l && edgesOK (l.take n) && sufOK l n && guardsIn (l.take n) n && decide (2 ≤ l.length) && (L0.all fun x=>isRowc x.2.2 || x.2.2.all D.flat) then
  match evOpsD C Γ nt orc (l.take n) L0 (l.take n) 0 (startDS K) with
  | some s =>
   match l[l.length - 2]?,l[l.length - 1]? with
   | some o1,some o2 =>
    match o1.op,o1.guard,o1.dst,o2.op,o2.guard with
    | .makeInterface T (.tmp sl),none,some t,.panic (.tmp t'),none =>
     (match keepK (midK (l.take n) s.K) [sl],keepL (viewD L0 s) kl with | some [(_,d)],some L'=>if t = t' ∧ t < nt then some (d,L',s.obl,T) else none | _,_=>none)
    | _,_,_,_,_=>none
   | _,_=>none
  | none=>none
 else none
theorem Wp.regionPanS (hm:P.follows .mixedOrders = true) (hΓ:ΓOK P Γ) {id:Nat} {l:List Oper} (orc:List (Nat × D)) (kl:List Nat) {pv:Value} {d:D} {ob:List Prop} {T:Nat}
  (h:evPanS (CX P) Γ nt orc l K L kl = some (d,L',ob,T)) (hob:AllP ob) (hT:notIface P T = true) (hd:∀ (F:Fz) (w:World) (B:Env) (v:Value),Rep F w B d v → v = pv)
  (hn:To nt F0 w0 [] L' (.panic [{ v:=.iface T pv,recovered:=false }]) Q):Wp P nt F0 w0 K L (.region id l.toArray true) Q:=by
 obtain ⟨u,hu,hni⟩:=notIface_spec hT
 rintro a w ⟨B,F,hb,hdf,hs,hK⟩
 unfold evPanS at h
 simp only at h
 split at h
 rotate_left
 ·cases h
 rename_i hok
 simp only [Bool.and_eq_true,decide_eq_true_eq] at hok
 obtain ⟨⟨⟨⟨⟨⟨⟨hnd,hdst⟩,hedg⟩,hedgp⟩,hsuf⟩,hgin⟩,hlen2⟩,hfl0⟩:=hok
 split at h
 rotate_left
 ·cases h
 rename_i s hs'
 split at h
 rotate_left
 ·cases h
 rename_i o1 o2 ho1 ho2
 split at h
 rotate_left
 ·cases h
 rename_i T' sl t t' h1 h2 h3 h4 h5
 split at h
 rotate_left
 ·cases h
 rename_i q d' L2 hg hkl
 split at h
 rotate_left
 ·cases h
 rename_i hc
 cases h
 obtain ⟨rfl,htl⟩:=hc
 obtain ⟨n,hn2⟩:∃ n,n = l.length - 2:=⟨_,rfl⟩
 rw [← hn2] at hdst hedgp hsuf hgin hs' hg ho1
 have hnl:n ≤ l.length:=by omega
 have hlen:(l.take n).length = n:=by simp [hnl]
 have hdrop:l.drop n = [o1,o2]:=by
  have e1:n < l.length:=by omega
  rw [List.drop_eq_getElem_cons e1,List.drop_eq_getElem_cons (by omega:n + 1 < l.length),List.drop_eq_nil_of_le (by omega)]
  rw [List.getElem?_eq_getElem e1] at ho1
  have e2:l.length - 1 = n + 1:=by omega
  rw [e2,List.getElem?_eq_getElem (by omega)] at ho2
  rw [Option.some.inj ho1,Option.some.inj ho2]
 obtain ⟨st,h0,h9,h10⟩:=trace_of (l.take n) 0 hs'
 have ht:Trace (CX P) Γ nt orc (l.take n) L K st:=⟨h0,fun i o ho=>by have:=h10 i o ho; simpa using this⟩
 rw [Nat.zero_add] at h9
 have hi:=startD ht hb.draw hdf hs (fun x hx=>by
  obtain ⟨v,h3,h4⟩:=hK x hx
  have hgr:Grow F F w w.drew:=⟨fun _ _ h=>h,fun _ _ _=>rfl⟩
  exact ⟨v,h3,h4.grow hgr⟩)
 refine XC.nrp (wpIn_region_draw fun tp=>?_)
 simp only [Region.schedule,hm,Bool.true_or,if_true]
 refine wpAnyIn_sound l.toArray.size tp _ a _ (any_in nrp_out (by simpa using ndB_nd hnd) ?_)
 have hw:({ w with drawn:=w.drawn + 1 }:World) = w.drew:=rfl
 rw [hw]
 have hrep:(Array.replicate l.toArray.size false) = Array.replicate n false ++ Array.replicate (l.length - n) false:=by
  rw [Array.replicate_append_replicate]; congr 1; simp; omega
 have hsz:l.toArray.size = n + (l.length - n):=by simp; omega
 rw [hrep,hsz]
 refine wpAny_suf hedg hedgp hsuf hgin hnl _ _ _ _ (by simp) (fun k o hk=>by simp [Array.getD_eq_getD_getElem?,Array.getElem?_replicate] at hk; split at hk <;> simp at hk) ?_
 refine any_sound (F0:=F0) (w0:=w0) (Q:=sufQ P l n (nrp Q)) hΓ hdst hfl0 hedgp ht (by rw [h9]; exact AllP.mem hob) (fun B' F' a' w' S hS hi=>?_) _ _ (unset B (keysD (st (l.take n).length))) F a w.drew (by simp [hnl]) ?_ ?_
 ·have hmid:=mid_inv (l:=l) (by rw [hlen]) ht hS hi
  rw [h9,hlen] at hmid
  show wpList P l.toArray (nrp Q) (l.drop n) a' w'
  rw [hdrop]
  obtain ⟨v,hv',hr⟩:=keepK1 hmid hg
  have:=hd _ _ _ _ hr
  subst this
  exact panE_sound (K:=K) h1 h2 h3 h4 h5 (by rw [hmid.size]; exact htl) hu hni hv' fun a2 h7 h8=>hn a2 w' ⟨B',F',hmid.base.sub fun _ _ _ h=>keepL_mem hkl _ h,h7.trans hmid.defers,h8.trans hmid.size,fun x hx=>by simp at hx⟩
 ·unfold left
  have:=List.length_filter_le (fun j=>!((Array.replicate n false).getD j false)) (List.range (l.take n).length)
  simp only [List.length_range,hlen] at this ⊢
  exact this
 ·have hfun:(fun j=>(Array.replicate n false).getD j false) = fun _=>false:=by
   funext j
   simp only [Array.getD_eq_getD_getElem?,Array.getElem?_replicate]
   split <;> rfl
  rw [hfun]; exact hi
def PostP {P:Program} (F0:Fz) (w0:Pt P) (pv:Value) (Lout:Boxes) (e:Ending) (w':World):Prop:=∃ F' B',e = .panicked [{ v:=pv,recovered:=false }] ∧ Base F0 w0 B' F' (memL Lout) w'
theorem To.donePan {fn:Func} {pv:Value} (kl:List Nat) {Lout:Boxes} (hl:keepL L kl = some Lout):To nt F0 w0.cl K L (.panic [{ v:=pv,recovered:=false }]) (bodyPost P fn (PostP F0 w0.cl pv Lout)):=by
 rintro a w ⟨B,F,hb,hd,hs,hK⟩
 exact ⟨hd,F,B,rfl,hb.sub fun _ _ _ h=>keepL_mem hl _ h⟩
theorem panB_of {f : Nat} {fn : Func} {c : Code} {ds : List D} {Lin : Boxes} {pv : Value} {Lout : Boxes} (hf : P.funcs[f]? = some fn) (hbody : fn.body = some c) (hname : (fn.name == "runtime.NumGoroutine") = false) (hn : ds.length ≤ fn.ntmps)
  (h:∀ (F0:Fz) (w0:Pt P),Wp P fn.ntmps F0 w0.cl (ds.zipIdx.map fun x=>(x.2,x.1)) Lin c (bodyPost P fn (PostP F0 w0.cl pv Lout))):PanB P f ds Lin pv Lout:=by
 refine ⟨⟨fn,hf,hname,by rw [hbody]; rfl⟩,fun F w1 B args hb hr=>?_⟩
 have hlen:=RepL.length hr
 refine (calls_of_wp hf hbody (h F w1 _ w1.w ⟨B,F,hb.cl,rfl,?_,fun x hx=>?_⟩).wp).mono fun e w' h=>?_
 rotate_right
 ·obtain ⟨F',B',h1,h2⟩:=h
  exact ⟨F',B',h1,h2.ofcl⟩
 ·simp; omega
 ·obtain ⟨y,hy,rfl⟩:=List.mem_map.1 hx
  obtain ⟨d,i⟩:=y
  have hd:ds[i]? = some d:=by
   have:=List.mem_zipIdx_iff_getElem?.1 hy
   simpa using this
  obtain ⟨v,hv,hrep⟩:=hr.get i hd
  refine ⟨v,?_,hrep⟩
  have hi:i < args.length:=(List.getElem?_eq_some_iff.1 hv).1
  simp only
  rw [Array.getElem?_append_left (by simpa using hi)]
  simpa using hv
end
end Go.Proofs.YtibgdilkodjojaaGreatDoor.RX
