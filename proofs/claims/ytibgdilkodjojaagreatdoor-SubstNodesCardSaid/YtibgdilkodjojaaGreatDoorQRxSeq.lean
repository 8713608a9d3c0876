import Derived.Test.YtibgdilkodjojaaGreatDoorQRxArrB
import Derived.Test.YtibgdilkodjojaaGreatDoorQRxMapB
set_option linter.all false
namespace Go.Proofs.YtibgdilkodjojaaGreatDoor.RX
open Go.RowKit
section
variable {P:Program} {F0:Fz} {w0:Pt P} {B:Env} {F:Fz} {w:World} {a:Act} {Q:Exit → Act → World → Prop} {Γ:Nat → Option TI} {nt:Nat} {ops:List Oper} {s:ES} {i:Nat} {S S':Nat → Prop}
theorem EntOK.tab {tab tab':List (Nat × Bool)} {e:Ent} (h:EntOK F w B tab a e) (hk:∀ x ∈ e.cnd,tv tab' x.1 = tv tab x.1):EntOK F w B tab' a e:=by
 unfold EntOK at *
 rw [holds_congr hk]; exact h
theorem EntOK.put {tab:List (Nat × Bool)} {e:Ent} {t:Nat} {v:Value} (h:EntOK F w B tab a e) (hne:e.slot ≠ t):EntOK F w B tab (a.put (some t) v) e:=by
 unfold EntOK at *
 rw [put_other hne]; exact h
theorem inv_put (hi:InvR nt ops F0 w0 B F s S a w) (hni:¬ S i) (hS:∀ j,S j → S' j) (hSi:S' i) {B':Env} {F':Fz} {w':World} {L':Boxes} {K0:List Ent} (hK0:∀ e ∈ K0,e ∈ s.K ∧ EntOK F' w' B' s.tab a e) (hb:Base F0 w0 B' F' (memL L') w')
  {t:Nat} {g:Cnd} {d:D} {v:Value} {tab':List (Nat × Bool)} {ob:List Prop} (ht:t < nt) (hg:∀ x ∈ g,S x.1) (htab:∀ j,j ≠ i → tv tab' j = tv s.tab j) (hself:∀ b,d = .val (.bool b) → tv tab' i = b)
  (ho:(ops[i]?).bind (·.dst) = some t) (hv:(holds s.tab g = true → Rep F' w' B' d v) ∧ (holds s.tab g = false → v = undef)) :
  InvR nt ops F0 w0 B' F' { K:=putEnt ⟨t,i + 1,g,d⟩ K0,L:=L',tab:=tab',obl:=ob } S' (a.put (some t) v) w':=by
 have hsz:t < a.tmps.size:=by rw [hi.size]; exact ht
 have hne:∀ j,S j → j ≠ i:=fun j hj e=>hni (e ▸ hj)
 refine ⟨hb,by rw [put_defers]; exact hi.defers,by rw [put_size]; exact hi.size,fun e he=>?_,fun e he x hx=>?_,fun e he=>?_,fun e he j hj=>?_⟩
 ·rcases mem_putEnt he with rfl | ⟨h1,h2⟩
  ·have hc:holds tab' g = holds s.tab g:=holds_congr fun x hx=>htab _ (hne _ (hg x hx))
   refine ⟨fun hh=>⟨v,put_same hsz,hv.1 (by rw [← hc]; exact hh)⟩,fun hh=>?_⟩
   rw [← hv.2 (by rw [← hc]; exact hh)]
   exact put_same hsz
  ·obtain ⟨h3,h4⟩:=hK0 e h1
   exact (h4.tab fun x hx=>htab _ (hne _ (hi.keys e h3 x hx))).put h2
 ·rcases mem_putEnt he with rfl | ⟨h1,h2⟩
  ·exact hS _ (hg x hx)
  ·exact hS _ (hi.keys e (hK0 e h1).1 x hx)
 ·rcases mem_putEnt he with rfl | ⟨h1,h2⟩
  ·exact .inr hSi
  ·exact (hi.srcs e (hK0 e h1).1).imp id (hS _)
 ·rcases mem_putEnt he with rfl | ⟨h1,h2⟩
  ·have:j = i:=by simp only at hj; omega
   subst this
   exact ⟨ho,fun b hb=>hself b hb⟩
  ·obtain ⟨h3,h4⟩:=hi.dsts e (hK0 e h1).1 j hj
   have hsj:S j:=by
    have:=hi.srcs e (hK0 e h1).1
    rw [hj] at this
    simpa using this
   exact ⟨h3,fun b hb=>by rw [htab j (hne j hsj)]; exact h4 b hb⟩
theorem inv_none (hi:InvR nt ops F0 w0 B F s S a w) (hS:∀ j,S j → S' j) {F':Fz} {w':World} {L':Boxes} (hgr:Grow F F' w w') (hb:Base F0 w0 B F' (memL L') w') {v:Value} {ob:List Prop} :
  InvR nt ops F0 w0 B F' { K:=s.K,L:=L',tab:=s.tab,obl:=ob } S' (a.put none v) w' :=
 ⟨hb,hi.defers,hi.size,fun e he=>(hi.ents e he).grow hgr,fun e he x hx=>hS _ (hi.keys e he x hx),fun e he=>(hi.srcs e he).imp id (hS _),hi.dsts⟩
theorem inv_noneB (hi:InvR nt ops F0 w0 B F s S a w) (hS:∀ j,S j → S' j) {B':Env} {F':Fz} {w':World} {L':Boxes} {K0:List Ent} (hK0:∀ e ∈ K0,e ∈ s.K ∧ EntOK F' w' B' s.tab a e) (hb:Base F0 w0 B' F' (memL L') w') {v:Value} {ob:List Prop} :
  InvR nt ops F0 w0 B' F' { K:=K0,L:=L',tab:=s.tab,obl:=ob } S' (a.put none v) w' :=
 ⟨hb,hi.defers,hi.size,fun e he=>(hK0 e he).2,fun e he x hx=>hS _ (hi.keys e (hK0 e he).1 x hx),fun e he=>(hi.srcs e (hK0 e he).1).imp id (hS _),fun e he=>hi.dsts e (hK0 e he).1⟩
theorem inv_turn (hi:InvR nt ops F0 w0 B F s S a w) (hS:∀ j,S j → S' j) {B':Env} {F':Fz} {w':World} {L':Boxes} {sb:D → Option D} (hgr:Grow F F' w w') (hs:SubOK F' w' B B' sb) (hb:Base F0 w0 B' F' (memL L') w') {v:Value} {ob:List Prop} (hsv:∀ d v,sb d ≠ some (.val v)) :
  InvR nt ops F0 w0 B' F' { K:=subK sb s.K,L:=L',tab:=s.tab,obl:=ob } S' (a.put none v) w':=by
 have hm:∀ e ∈ subK sb s.K,∃ e' ∈ s.K,e = { e' with d:=e'.d.sub sb }:=by
  intro e he
  obtain ⟨e',h1,h2⟩:=List.mem_map.1 he
  exact ⟨e',h1,h2.symm⟩
 refine ⟨hb,hi.defers,hi.size,fun e he=>?_,fun e he x hx=>?_,fun e he=>?_,fun e he j hj=>?_⟩
 ·obtain ⟨e',h1,rfl⟩:=hm e he
  have h2:=(hi.ents e' h1).grow hgr
  exact ⟨fun hq=>by obtain ⟨v,h3,h4⟩:=h2.1 hq; exact ⟨v,h3,h4.sub hs⟩,h2.2⟩
 ·obtain ⟨e',h1,rfl⟩:=hm e he
  exact hS _ (hi.keys e' h1 x hx)
 ·obtain ⟨e',h1,rfl⟩:=hm e he
  exact (hi.srcs e' h1).imp id (hS _)
 ·obtain ⟨e',h1,rfl⟩:=hm e he
  obtain ⟨h2,h3⟩:=hi.dsts e' h1 j hj
  exact ⟨h2,fun b hb=>h3 b (sub_val hsv hb)⟩
theorem ob_of {tab:List (Nat × Bool)} {g:Cnd} {cs:List Bool} {obl:List Prop} (h:∀ p ∈ obl ++ cs.map fun c=>withOb tab g c = true,p) (hh:holds tab g = true):∀ c ∈ cs,c = true:=by
 intro c hc
 have:=h (withOb tab g c = true) (List.mem_append_right _ (List.mem_map.2 ⟨c,hc,rfl⟩))
 unfold withOb at this
 split at this
 ·exact this
 ·rw [hh] at this; simpa using this
theorem addTab_other {d:D} {tab:List (Nat × Bool)}:∀ j,j ≠ i → tv (addTab i d tab) j = tv tab j:=fun _ h=>addTab_tv h
theorem dropKey_mem {L:Boxes} {old:Option Nat} {x:Nat × Nat × List D} (h:x ∈ dropKey L old):x ∈ L ∧ some x.1 ≠ old:=by
 cases old with
 | none=>exact ⟨h,by simp⟩
 | some k =>
  obtain ⟨h1,h2⟩:=List.mem_filter.1 h
  exact ⟨h1,by simpa using h2⟩
theorem appSpec_old {L:Boxes} {es el:Nat} {x y:D} {k N:Nat} {m:Bool} {spec:D → Prop} (h:appSpec es el L x y = some (some k,m,N,spec)):∃ (tt:Nat) (α:Type) (d:α) (enc:α → List D) (l:List α),memL L k tt [.rowc m d enc l]:=by
 unfold appSpec at h
 split at h
 ·split at h
  ·rename_i hl
   split at h
   ·cases h; exact ⟨_,_,_,_,_,mem_of_lookup hl⟩
   ·cases h
  ·cases h
 ·cases h
 ·cases h
theorem evX_row {Γ:Nat → Option TI} {L:Boxes} {get:Operand → Option D} {op:Op} (e:Nat) (m:Bool) (old:Option Nat) (spec:D → Prop) (_ _:Unit):evX Γ L get op ≠ some (.row e m old spec):=by
 intro h
 unfold evX at h
 repeat' (first | (cases h; done) | (simp only [Option.map] at h) | split at h)
theorem evX_upd {Γ:Nat → Option TI} {L:Boxes} {get:Operand → Option D} {op:Op} (k:Nat) (n:Int) (z off:Nat) (cells:List D) (_:Unit):evX Γ L get op ≠ some (.upd k n z off cells):=by
 intro h
 unfold evX at h
 repeat' (first | (cases h; done) | (simp only [Option.map] at h) | split at h)
theorem row_old {L:Boxes} {get:Operand → Option D} {dst:Option Nat} {op:Op} {e:Nat} {m:Bool} {old:Option Nat} {spec:D → Prop} {cs:List Bool} {k:Nat} (h:evOp Γ L get dst op = some (.row e m old spec,cs)) (hk:old = some k) :
  ∃ (tt:Nat) (α:Type) (d:α) (enc:α → List D) (l:List α),memL L k tt [.rowc m d enc l]:=by
 subst hk
 unfold evOp at h
 split at h
 ·rename_i out' hx
  cases h
  exact absurd hx (evX_row _ _ _ _ () ())
 unfold evOp0 at h
 split at h <;> first | (cases h; done) | skip
 case h_21 =>
  unfold evCall at h
  split at h <;> first | (cases h; done) | skip
  ·split at h <;> cases h
  ·rename_i s x _ _
   split at h
   ·rename_i t t' _
    cases ht:Γ t with
    | none=>rw [ht] at h; cases h
    | some ti =>
     cases ht':Γ t' with
     | none=>rw [ht,ht'] at h; cases h
     | some ti' =>
      rw [ht,ht'] at h
      simp only [Option.bind] at h
      split at h
      ·rename_i es ea es' ea' hk hk'
       split at h
       ·cases hr:appSpec es ti.elt L s x with
        | none=>rw [hr] at h; cases h
        | some r=>rw [hr] at h; obtain ⟨q1,q2,q3,q4⟩:=r; cases h; exact appSpec_old hr
       ·cases h
      ·rename_i es ea hk hk'
       split at h
       ·cases hr:appSpec es ti.elt L s x with
        | none=>rw [hr] at h; cases h
        | some r=>rw [hr] at h; obtain ⟨q1,q2,q3,q4⟩:=r; cases h; exact appSpec_old hr
       ·cases h
      ·cases h
   ·cases h
  all_goals (exfalso; (repeat' (first | (cases h; done) | (simp only [Option.bind,Option.map] at h) | split at h)))
 all_goals (exfalso; (repeat' (first | (cases h; done) | (simp only [Option.bind,Option.map] at h) | split at h)))
theorem upd_checks {L:Boxes} {get:Operand → Option D} {dst:Option Nat} {op:Op} {k:Nat} {n:Int} {z off t:Nat} {cells:List D} {cs:List Bool} {α:Type} {d:α} {enc:α → List D} {l:List α} (h:evOp Γ L get dst op = some (.upd k n z off cells,cs))
  (hl:L.lookup k = some (t,[.rowc false d enc l])):cs = [decide (0 ≤ n ∧ n < (l.length:Int))]:=by
 unfold evOp at h
 split at h
 ·rename_i out' hx
  cases h
  exact absurd hx (evX_upd _ _ _ _ _ ())
 unfold evOp0 at h
 split at h <;> first | (cases h; done) | skip
 case h_7 =>
  split at h
  ·split at h
   ·split at h <;> cases h
   ·rename_i hl' _
    split at h
    ·cases h
     rw [hl] at hl'
     cases hl'
     rfl
    ·cases h
   ·cases h
  ·split at h
   ·split at h <;> cases h
   ·cases h
  ·split at h
   ·split at h <;> cases h
   ·cases h
  ·cases h
 all_goals (exfalso; (repeat' (first | (cases h; done) | (simp only [evCall,Option.bind,Option.map] at h) | split at h)))
theorem InvR.settle (hi:InvR nt ops F0 w0 B F s S a w) (k:Nat):∃ F',InvR nt ops F0 w0 B F' (RX.settle s k) S a w:=by
 unfold RX.settle
 split
 ·rename_i t m α d enc l hl
  obtain ⟨F',h1,h2⟩:=hi.base.settleRow (mem_of_lookup hl)
  refine ⟨F',h1.sub fun j t' es hm=>?_,hi.defers,hi.size,fun e he=>(hi.ents e he).grow h2,hi.keys,hi.srcs,hi.dsts⟩
  unfold memL setRow at hm
  rcases List.mem_cons.1 hm with hm | hm
  ·cases hm; exact .inl ⟨rfl,rfl,rfl⟩
  ·obtain ⟨h3,h4⟩:=List.mem_filter.1 hm
   exact .inr ⟨by simpa using h4,h3⟩
 ·rename_i t ds hnr hl
  split
  ·rename_i hno
   rw [Bool.and_eq_true] at hno
   obtain ⟨F',h1,h2,h3⟩:=hi.base.ground (L:=s.L) (fun _ _ _ _ _ _ _ h=>mem_of_lookup h) (mem_of_lookup hl) hno.1 hno.2
   refine ⟨F',h1.sub fun j t' es hm=>?_,hi.defers,hi.size,fun e he=>?_,fun e he=>?_,fun e he=>?_,fun e he j hj=>?_⟩
   ·unfold memL subL at hm
    obtain ⟨x,hx,he⟩:=List.mem_map.1 hm
    obtain ⟨hx1,hx2⟩:=List.mem_filter.1 hx
    cases he
    exact ⟨x.2.2,by simpa using hx2,hx1,rfl⟩
   all_goals
    obtain ⟨x,hx,rfl⟩:=List.mem_map.1 he
   ·have h5:=(hi.ents x hx).grow h2
    exact ⟨(fun hq=>by obtain ⟨v,h6,h7⟩:=h5.1 hq; exact ⟨v,h6,h7.sub h3⟩),h5.2⟩
   ·exact hi.keys x hx
   ·exact hi.srcs x hx
   ·obtain ⟨h6,h7⟩:=hi.dsts x hx j hj
    exact ⟨h6,fun b hb=>h7 b (sub_val toEl_val hb)⟩
  ·exact ⟨F,hi⟩
 ·exact ⟨F,hi⟩
theorem InvR.settles (hi:InvR nt ops F0 w0 B F s S a w) (fz:List (Nat × List Nat)):∃ F',InvR nt ops F0 w0 B F' (RX.settles fz i s) S a w:=by
 unfold RX.settles
 split
 ·rename_i ks hks
  clear hks
  induction ks generalizing s F with
  | nil=>exact ⟨F,hi⟩
  | cons k ks ih =>
   obtain ⟨F',h⟩:=hi.settle k
   exact ih h
 ·exact ⟨F,hi⟩
theorem settle_obl (s:ES) (k:Nat):(RX.settle s k).obl = s.obl:=by
 unfold RX.settle
 split
 ·rfl
 ·split <;> rfl
 ·rfl
theorem settles_obl (fz:List (Nat × List Nat)) (i:Nat) (s:ES):(RX.settles fz i s).obl = s.obl:=by
 unfold RX.settles
 split
 ·rename_i ks hks
  clear hks
  induction ks generalizing s with
  | nil=>rfl
  | cons k ks ih=>rw [List.foldl_cons,ih,settle_obl]
 ·rfl
theorem step_sound (hΓ:ΓOK P Γ) {orc:List (Nat × D)} {orb:List (Nat × CBd)} {o:Oper} {s':ES} (hi:InvR nt ops F0 w0 B F s S a w) (hni:¬ S i) (hS:∀ j,S j → S' j) (hSi:S' i) (ho:ops[i]? = some o) (h:stepOp (CX P) (CallsB P) Γ nt orc orb ops i o s = some s') (hobl:∀ p ∈ s'.obl,p)
  {K:Act → World → Prop} (hK:∀ B' F' a' w',InvR nt ops F0 w0 B' F' s' S' a' w' → K a' w') :
  if Region.wanted o (yielded ops.toArray a.tmps) = true then o.wp P a w K Q else K (a.put o.dst undef) w:=by
 unfold stepOp at h
 split at h
 ·cases h
 ·rename_i g hg
  obtain ⟨hw,hkeys⟩:=guard_ok hi hg rfl
  have hdst:∀ t,o.dst = some t → (ops[i]?).bind (·.dst) = some t:=by intro t ht; rw [ho]; exact ht
  rw [hw]
  split at h
  ·
   rename_i c x y hop
   unfold stepPick at h
   split at h
   ·rename_i t tc hd
    split at h
    ·rename_i e he
     obtain ⟨hm,hslot⟩:=find_mem he
     split at h
     ·rename_i hcond
      obtain ⟨hle,hsrc,ht⟩:=hcond
      split at h
      ·rename_i bc ba bb hec hea heb
       cases h
       have hsrc':e.src = (e.src - 1) + 1:=by omega
       have htv:=(hi.dsts e hm (e.src - 1) hsrc').2 bc hec
       have hnew:∀ v,(holds s.tab g = true → v = .bool (bif bc then ba else bb)) → (holds s.tab g = false → v = undef) → K (a.put o.dst v) w:=by
        intro v h1 h2
        rw [hd]
        refine hK B F _ _ (inv_put hi hni hS hSi (fun e he=>⟨he,hi.ents e he⟩) hi.base ht hkeys (fun j hj=>tv_cons hj) (fun b hb=>?_) (hdst t hd) ⟨fun hh=>?_,h2⟩)
        ·cases hb; exact tv_self
        ·rw [h1 hh]; exact .val _ rfl
       cases hh:holds s.tab g with
       | false=>simp only [Bool.false_eq_true,if_false]; exact hnew _ (fun h=>by rw [hh] at h; cases h) (fun _=>rfl)
       | true =>
        simp only [if_true]
        obtain ⟨v,hv1,hv2⟩:=(hi.ents e hm).1 (holds_le hle hh)
        rw [hec] at hv2; cases hv2
        have hval:∀ b',bc = b' → ∀ (z:Operand) (bz:Bool),getOp s.K ((e.src - 1,b') :: g) z = some (.val (.bool bz)) → a.eval z = .bool bz:=by
         intro b' hb' z bz hz
         have hh':holds s.tab ((e.src - 1,b') :: g) = true:=by
          rw [holds_cons,hh,htv,hb']; simp
         have:=getOp_ok hi.ents hh' z _ hz
         generalize a.eval z = vz at this
         cases this; rfl
        have hrun:(execOp a.eval o).run P w = .ok (.value (.bool (bif bc then ba else bb))) w:=by
         unfold execOp
         rw [hslot] at hv1
         simp only [hop,eval_tmp hv1,asBool,Sem.run_bind,Sem.run_pure,Result.andThen_ok]
         cases hbc:bc with
         | true=>rw [hval true hbc x ba hea]; rfl
         | false=>rw [hval false hbc y bb heb]; rfl
        unfold Oper.wp
        rw [hrun]
        exact hnew _ (fun _=>rfl) (fun h=>by rw [hh] at h; cases h)
      ·cases h
     ·cases h
    ·cases h
   ·cases h
  ·
   rename_i op hnp
   cases he:evOp Γ s.L (getOp s.K g) o.dst o.op with
   | none=>rw [he] at h; cases h
   | some oc =>
    obtain ⟨out,cs⟩:=oc
    rw [he] at h
    simp only [Option.bind] at h
    cases out with
    | val d =>
     simp only [stepOut] at h
     split at h
     ·rename_i t hd
      split at h
      ·rename_i ht
       cases h
       have hnew:∀ v,(holds s.tab g = true → Rep F w B d v) → (holds s.tab g = false → v = undef) → K (a.put o.dst v) w:=by
        intro v h1 h2
        rw [hd]
        exact hK B F _ _ (inv_put hi hni hS hSi (fun e he=>⟨he,hi.ents e he⟩) hi.base ht hkeys addTab_other (fun b hb=>by subst hb; exact addTab_self) (hdst t hd) ⟨h1,h2⟩)
       cases hh:holds s.tab g with
       | false=>simp only [Bool.false_eq_true,if_false]; exact hnew _ (fun h=>by rw [hh] at h; cases h) (fun _=>rfl)
       | true =>
        simp only [if_true]
        exact wp_val (evOp_sound hΓ hi.base (fun _ _ _ _ _ _ _ h=>mem_of_lookup h) (getOp_ok hi.ents hh) (fun _ _ _ _ h=>mem_of_lookup h) he (ob_of hobl hh)) fun v hv=>hnew v (fun _=>hv) (fun h=>by rw [hh] at h; cases h)
      ·cases h
     ·cases h
    | call f args =>
     simp only [stepOut] at h
     split at h
     ·
      rename_i c hcb
      split at h
      rotate_left
      ·rename_i x g'
       split at h
       rotate_left
       ·cases h
       rename_i hcond
       obtain ⟨hce,hcok,hnk⟩:=hcond
       have hcs:cs = []:=by simpa using hce
       subst hcs
       have hnk':newKeys c = []:=by simpa using hnk
       split at h
       rotate_left
       ·cases h
       rename_i t hd
       split at h
       rotate_left
       ·cases h
       rename_i ht
       cases h
       have hc1:holds s.tab (x :: g') = true → CbOb (CallsB P) f args (found c s.L) c:=hobl _ (List.mem_append_right _ List.mem_cons_self)
       have hc2:holds s.tab (x :: g') = false → KeepOb (heldL s.L c) c:=hobl _ (List.mem_append_right _ (List.mem_cons_of_mem _ (List.mem_singleton.2 rfl)))
       cases hh:holds s.tab (x :: g') with
       | false =>
        simp only [Bool.false_eq_true,if_false]
        rw [hd]
        refine hK B F _ _ (inv_put hi hni hS hSi (fun e he=>⟨(List.mem_filter.1 he).1,hi.ents e (List.mem_filter.1 he).1⟩) (hi.base.sub fun k t' ds hm=>?_) ht hkeys addTab_other (fun b hb=>by rw [hb]; exact addTab_self) (hdst t hd) ⟨(fun h=>by rw [hh] at h; cases h),fun _=>rfl⟩)
        unfold memL at hm
        rcases List.mem_append.1 hm with h | h
        ·have hk:=hc2 hh
         unfold KeepOb at hk
         rw [hk] at h
         obtain ⟨y,hy,he'⟩:=List.mem_filterMap.1 h
         obtain ⟨k',hk',h2⟩:=Option.bind_eq_some_iff.1 he'
         obtain ⟨z,hz,h3⟩:=Option.map_eq_some_iff.1 h2
         cases h3
         exact mem_of_lookup hz
        ·exact (List.mem_filter.1 h).1
       | true =>
        simp only [if_true]
        refine wp_callB (evOp_sound hΓ hi.base (fun _ _ _ _ _ _ _ h=>mem_of_lookup h) (getOp_ok hi.ents hh) (fun _ _ _ _ h=>mem_of_lookup h) he (by simp)) hi.base hcok (hc1 hh) fun v w' F' B2 h1 h2 h3 h4=>?_
        rw [hd]
        refine hK B2 F' _ _ (inv_put hi hni hS hSi (fun e he=>?_) h1 ht hkeys addTab_other (fun b hb=>by rw [hb]; exact addTab_self) (hdst t hd) ⟨fun _=>h4,fun h=>by rw [hh] at h; cases h⟩)
        have h5:=(List.mem_filter.1 he).1
        refine ⟨h5,?_⟩
        have h6:=(hi.ents e h5).grow h2
        refine ⟨fun hq=>?_,h6.2⟩
        obtain ⟨v,h7,h8⟩:=h6.1 hq
        exact ⟨v,h7,h8.reenv fun k _=>h3 k (by rw [hnk']; rfl)⟩
      split at h
      rotate_left
      ·cases h
      rename_i hcond
      obtain ⟨hce,hcok⟩:=hcond
      have hcs:cs = []:=by simpa using hce
      subst hcs
      have hh:holds s.tab [] = true:=rfl
      rw [hh]
      simp only [if_true]
      have hent:∀ (F':Fz) (w':World) (B2:Env),Grow F F' w w' → (∀ k,(newKeys c).contains k = false → B2 k = B k) → ∀ e ∈ s.K.filter (fun e=>(newKeys c).all fun k=>!(D.names k e.d)),e ∈ s.K ∧ EntOK F' w' B2 s.tab a e:=by
       intro F' w' B2 hg hB e he
       obtain ⟨h1,h2⟩:=List.mem_filter.1 he
       refine ⟨h1,?_⟩
       have h3:=(hi.ents e h1).grow hg
       refine ⟨fun hc=>?_,h3.2⟩
       obtain ⟨v,h4,h5⟩:=h3.1 hc
       refine ⟨v,h4,h5.reenv fun k hk=>hB k ?_⟩
       cases hcc:(newKeys c).contains k with
       | false=>rfl
       | true =>
        rw [List.contains_iff_mem] at hcc
        have:=List.all_eq_true.1 h2 k hcc
        rw [hk] at this; cases this
      split at h
      ·rename_i t hd
       split at h
       ·rename_i ht
        cases h
        have hc:=hobl _ (List.mem_append_right _ (List.mem_singleton.2 rfl))
        refine wp_callB (evOp_sound hΓ hi.base (fun _ _ _ _ _ _ _ h=>mem_of_lookup h) (getOp_ok hi.ents hh) (fun _ _ _ _ h=>mem_of_lookup h) he (by simp)) hi.base hcok hc fun v w' F' B2 h1 h2 h3 h4=>?_
        rw [hd]
        exact hK B2 F' _ _ (inv_put hi hni hS hSi (hent F' w' B2 h2 h3) h1 ht (by simp) addTab_other (fun b hb=>by rw [hb]; exact addTab_self) (hdst t hd) ⟨fun _=>h4,fun h=>by cases h⟩)
       ·cases h
      ·rename_i hd
       cases h
       have hc:=hobl _ (List.mem_append_right _ (List.mem_singleton.2 rfl))
       refine wp_callB (evOp_sound hΓ hi.base (fun _ _ _ _ _ _ _ h=>mem_of_lookup h) (getOp_ok hi.ents hh) (fun _ _ _ _ h=>mem_of_lookup h) he (by simp)) hi.base hcok hc fun v w' F' B2 h1 h2 h3 h4=>?_
       rw [hd]
       exact hK B2 F' _ _ (inv_noneB hi hS (hent F' w' B2 h2 h3) h1)
     split at h
     ·rename_i r t hr hd
      split at h
      ·rename_i hcond
       obtain ⟨ht,hna,hnr,hce⟩:=hcond
       cases h
       have hc:=hobl _ (List.mem_append_right _ (List.mem_singleton.2 rfl))
       cases hh:holds s.tab g with
       | false =>
        simp only [Bool.false_eq_true,if_false]
        rw [hd]
        exact hK B F _ _ (inv_put hi hni hS hSi (fun e he=>⟨he,hi.ents e he⟩) hi.base ht hkeys addTab_other (fun b hb=>by subst hb; exact addTab_self) (hdst t hd) ⟨(fun h=>by rw [hh] at h; cases h),fun _=>rfl⟩)
       | true =>
        simp only [if_true]
        have hcs:cs = []:=by simpa using hce
        subst hcs
        refine wp_call (evOp_sound hΓ hi.base (fun _ _ _ _ _ _ _ h=>mem_of_lookup h) (getOp_ok hi.ents hh) (fun _ _ _ _ h=>mem_of_lookup h) he (by simp)) hi.base hna (hc hh) fun v w' F' h1 h2 h3=>?_
        rw [hd]
        exact hK B F' _ _ (inv_put hi hni hS hSi (fun e he=>⟨he,(hi.ents e he).grow h2⟩) h1 ht hkeys addTab_other (fun b hb=>by subst hb; exact addTab_self) (hdst t hd) ⟨fun _=>h3,fun h=>by rw [hh] at h; cases h⟩)
      ·cases h
     ·rename_i r hr hd
      split at h
      ·rename_i hcond
       obtain ⟨hna,hce⟩:=hcond
       cases h
       have hc:=hobl _ (List.mem_append_right _ (List.mem_singleton.2 rfl))
       cases hh:holds s.tab g with
       | false =>
        simp only [Bool.false_eq_true,if_false]
        rw [hd]
        exact hK B F _ _ (inv_none hi hS (Grow.refl _ _) hi.base)
       | true =>
        simp only [if_true]
        have hcs:cs = []:=by simpa using hce
        subst hcs
        refine wp_call (evOp_sound hΓ hi.base (fun _ _ _ _ _ _ _ h=>mem_of_lookup h) (getOp_ok hi.ents hh) (fun _ _ _ _ h=>mem_of_lookup h) he (by simp)) hi.base hna (hc hh) fun v w' F' h1 h2 h3=>?_
        rw [hd]
        exact hK B F' _ _ (inv_none hi hS h2 h1)
      ·cases h
     ·cases h
    | box ty cells =>
     simp only [stepOut] at h
     split at h
     ·rename_i t hd
      split at h
      ·rename_i hcond
       obtain ⟨ht,htl,hfl,hn,hce⟩:=hcond
       cases h
       have hn':D.namess t cells = false:=by simpa using hn
       have hh:holds s.tab [] = true:=rfl
       simp only [hh,if_true]
       have hcs:cs = []:=by simpa using hce
       subst hcs
       have hB':=setB_ne B t (.box w.heap.size)
       refine wp_box (evOp_sound hΓ hi.base (fun _ _ _ _ _ _ _ h=>mem_of_lookup h) (getOp_ok hi.ents hh) (fun _ _ _ _ h=>mem_of_lookup h) he (by simp)) hi.base hfl (t:=t) (setB_self B t (.box w.heap.size)) (fun k hk=>setB_ne _ _ _ _ (by unfold LIM at hk; omega)) (M':=memL ((s.L.filter fun x=>!D.namess t x.2.2).filter fun x=>!(x.1 == t)))
        (fun F w vs hr=>hr.rebox t hB' hn') (fun k t' ds hx=>?_) fun w' h1 h2=>?_
       ·obtain ⟨hx1,hx2⟩:=List.mem_filter.1 hx
        obtain ⟨hx3,hx4⟩:=List.mem_filter.1 hx1
        have hk:k ≠ t:=by simpa using hx2
        exact ⟨hx3,hk,hB' k hk,fun F w vs hr=>hr.rebox t hB' (by simpa using hx4)⟩
       ·rw [hd]
        refine hK _ F _ _ (inv_put hi hni hS hSi (fun e he=>?_) (h1.sub fun k t' ds h=>?_) ht (by simp) (fun j hj=>rfl) (fun b hb=>by cases hb) (hdst t hd) ⟨fun _=>.own _ _ _ (setB_self _ _ _),fun h=>by cases h⟩)
        rotate_left
        ·unfold memL putBox at h
         rcases List.mem_cons.1 h with h | h
         ·cases h; exact .inl ⟨rfl,rfl,rfl⟩
         ·exact .inr h
        obtain ⟨h3,h4⟩:=List.mem_filter.1 he
        refine ⟨h3,?_⟩
        have h5:=(hi.ents e h3).grow h2
        exact ⟨(fun hq=>by obtain ⟨v,h6,h7⟩:=h5.1 hq; exact ⟨v,h6,h7.rebox t (setB_ne _ _ _) (by simpa using h4)⟩),h5.2⟩
      ·cases h
     ·cases h
    | known spec =>
     simp only [stepOut] at h
     split at h
     ·rename_i t r hd hr
      split at h
      ·rename_i hcond
       obtain ⟨ht,hce⟩:=hcond
       cases h
       have hcs:cs = []:=by simpa using hce
       subst hcs
       have hc:=hobl _ (List.mem_append_right _ (List.mem_singleton.2 rfl))
       have hnew:∀ v,(holds s.tab g = true → Rep F w B r v) → (holds s.tab g = false → v = undef) → K (a.put o.dst v) w:=by
        intro v h1 h2
        rw [hd]
        exact hK B F _ _ (inv_put hi hni hS hSi (fun e he=>⟨he,hi.ents e he⟩) hi.base ht hkeys addTab_other (fun b hb=>by subst hb; exact addTab_self) (hdst t hd) ⟨h1,h2⟩)
       cases hh:holds s.tab g with
       | false=>simp only [Bool.false_eq_true,if_false]; exact hnew _ (fun h=>by rw [hh] at h; cases h) (fun _=>rfl)
       | true =>
        simp only [if_true]
        exact wp_known (evOp_sound hΓ hi.base (fun _ _ _ _ _ _ _ h=>mem_of_lookup h) (getOp_ok hi.ents hh) (fun _ _ _ _ h=>mem_of_lookup h) he (by simp)) (hc hh) fun v hv=>hnew v (fun _=>hv) (fun h=>by rw [hh] at h; cases h)
      ·cases h
     ·cases h
    | mkmap ty kk ag =>
     simp only [stepOut] at h
     split at h
     ·rename_i t kk' ag' α d enc hd hr
      split at h
      ·rename_i hcond
       obtain ⟨ht,htl,hce,rfl,rfl⟩:=hcond
       cases h
       have hh:holds s.tab [] = true:=rfl
       simp only [hh,if_true]
       have hcs:cs = []:=by simpa using hce
       subst hcs
       have hgood:GoodM ag' enc:=hobl _ (List.mem_append_right _ (List.mem_singleton.2 rfl))
       have hB':=setB_ne B t (.map w.heap.size)
       refine wp_mkmap (evOp_sound hΓ hi.base (fun _ _ _ _ _ _ _ h=>mem_of_lookup h) (getOp_ok hi.ents hh) (fun _ _ _ _ h=>mem_of_lookup h) he (by simp)) hi.base hgood (d:=d) (t:=t) (setB_self B t (.map w.heap.size)) (fun k hk=>setB_ne _ _ _ _ (by unfold LIM at hk; omega)) (M':=memL ((s.L.filter fun x=>!D.namess t x.2.2).filter fun x=>!(x.1 == t))) (fun k t' ds hx=>?_) fun w' h1 h2=>?_
       ·obtain ⟨hx1,hx2⟩:=List.mem_filter.1 hx
        obtain ⟨hx3,hx4⟩:=List.mem_filter.1 hx1
        have hk:k ≠ t:=by simpa using hx2
        exact ⟨hx3,hk,hB' k hk,fun F w vs hr=>hr.rebox t hB' (by simpa using hx4)⟩
       ·rw [hd]
        refine hK _ F _ _ (inv_put hi hni hS hSi (fun e he=>?_) (h1.sub fun k t' ds h=>?_) ht (by simp) (fun j hj=>rfl) (fun b hb=>by cases hb) (hdst t hd) ⟨fun _=>.mp _ _ (setB_self _ _ _),fun h=>by cases h⟩)
        rotate_left
        ·unfold memL putBox at h
         rcases List.mem_cons.1 h with h | h
         ·cases h; exact .inl ⟨rfl,rfl,rfl⟩
         ·exact .inr h
        obtain ⟨h3,h4⟩:=List.mem_filter.1 he
        refine ⟨h3,?_⟩
        have h5:=(hi.ents e h3).grow h2
        exact ⟨(fun hq=>by obtain ⟨v,h6,h7⟩:=h5.1 hq; exact ⟨v,h6,h7.rebox t (setB_ne _ _ _) (by simpa using h4)⟩),h5.2⟩
      ·cases h
     ·cases h
    | mlk k kk ag key ok ez =>
     simp only [stepOut] at h
     split at h
     ·rename_i t r tt kk' ag' α d enc l hd hr hl
      split at h
      ·rename_i hcond
       obtain ⟨ht,hce,rfl,rfl⟩:=hcond
       cases h
       have hcs:cs = []:=by simpa using hce
       subst hcs
       have hc:=hobl _ (List.mem_append_right _ (List.mem_singleton.2 rfl))
       have hnew:∀ v,(holds s.tab g = true → Rep F w B r v) → (holds s.tab g = false → v = undef) → K (a.put o.dst v) w:=by
        intro v h1 h2
        rw [hd]
        exact hK B F _ _ (inv_put hi hni hS hSi (fun e he=>⟨he,hi.ents e he⟩) hi.base ht hkeys addTab_other (fun b hb=>by subst hb; exact addTab_self) (hdst t hd) ⟨h1,h2⟩)
       cases hh:holds s.tab g with
       | false=>simp only [Bool.false_eq_true,if_false]; exact hnew _ (fun h=>by rw [hh] at h; cases h) (fun _=>rfl)
       | true =>
        simp only [if_true]
        exact wp_mlk (evOp_sound hΓ hi.base (fun _ _ _ _ _ _ _ h=>mem_of_lookup h) (getOp_ok hi.ents hh) (fun _ _ _ _ h=>mem_of_lookup h) he (by simp)) (mem_of_lookup hl) (hc hh) fun v hv=>hnew v (fun _=>hv) (fun h=>by rw [hh] at h; cases h)
      ·cases h
     ·cases h
    | mlen k =>
     simp only [stepOut] at h
     split at h
     ·rename_i t tt kk ag α d enc l hd hl
      split at h
      ·rename_i hcond
       obtain ⟨ht,hce⟩:=hcond
       cases h
       have hcs:cs = []:=by simpa using hce
       subst hcs
       have hnew:∀ v,(holds s.tab g = true → Rep F w B (.val (.int .i64 l.length)) v) → (holds s.tab g = false → v = undef) → K (a.put o.dst v) w:=by
        intro v h1 h2
        rw [hd]
        exact hK B F _ _ (inv_put hi hni hS hSi (fun e he=>⟨he,hi.ents e he⟩) hi.base ht hkeys (fun j hj=>rfl) (fun b hb=>by cases hb) (hdst t hd) ⟨h1,h2⟩)
       cases hh:holds s.tab g with
       | false=>simp only [Bool.false_eq_true,if_false]; exact hnew _ (fun h=>by rw [hh] at h; cases h) (fun _=>rfl)
       | true =>
        simp only [if_true]
        exact wp_mlen (evOp_sound hΓ hi.base (fun _ _ _ _ _ _ _ h=>mem_of_lookup h) (getOp_ok hi.ents hh) (fun _ _ _ _ h=>mem_of_lookup h) he (by simp)) (mem_of_lookup hl) (hnew _ (fun _=>.val _ rfl) (fun h=>by rw [hh] at h; cases h))
      ·cases h
     ·cases h
    | mset k kk ag key cells =>
     simp only [stepOut] at h
     split at h
     ·rename_i t kk' ag' α d enc l hd hl
      split at h
      ·rename_i hcond
       obtain ⟨hno,hce,rfl,rfl⟩:=hcond
       split at h
       ·rename_i r hr
        cases h
        have hh:holds s.tab [] = true:=rfl
        simp only [hh,if_true]
        have hcs:cs = []:=by simpa using hce
        subst hcs
        obtain ⟨l',rfl,hx⟩:=hobl _ (List.mem_append_right _ (List.mem_singleton.2 rfl))
        refine wp_mset (evOp_sound hΓ hi.base (fun _ _ _ _ _ _ _ h=>mem_of_lookup h) (getOp_ok hi.ents hh) (fun _ _ _ _ h=>mem_of_lookup h) he (by simp)) hi.base hno (mem_of_lookup hl) hx fun w' h1 h2=>?_
        rw [hd]
        refine hK B F _ _ (inv_none hi hS h2 (h1.sub fun j t' es hm=>?_))
        unfold memL setRow at hm
        rcases List.mem_cons.1 hm with hm | hm
        ·cases hm; exact .inl ⟨rfl,rfl,rfl⟩
        ·obtain ⟨h3,h4⟩:=List.mem_filter.1 hm
         exact .inr ⟨by simpa using h4,h3⟩
       ·cases h
      ·cases h
     ·cases h
    | mdl k kk ag key =>
     simp only [stepOut] at h
     split at h
     ·rename_i t kk' ag' α d enc l hd hl
      split at h
      ·rename_i hcond
       obtain ⟨hce,rfl,rfl⟩:=hcond
       cases h
       have hh:holds s.tab [] = true:=rfl
       simp only [hh,if_true]
       have hcs:cs = []:=by simpa using hce
       subst hcs
       refine wp_mdl (evOp_sound hΓ hi.base (fun _ _ _ _ _ _ _ h=>mem_of_lookup h) (getOp_ok hi.ents hh) (fun _ _ _ _ h=>mem_of_lookup h) he (by simp)) hi.base (mem_of_lookup hl) fun w' h1 h2=>?_
       rw [hd]
       refine hK B F _ _ (inv_none hi hS h2 (h1.sub fun j t' es hm=>?_))
       unfold memL setRow at hm
       rcases List.mem_cons.1 hm with hm | hm
       ·cases hm; exact .inl ⟨rfl,rfl,rfl⟩
       ·obtain ⟨h3,h4⟩:=List.mem_filter.1 hm
        exact .inr ⟨by simpa using h4,h3⟩
      ·cases h
     ·cases h
    | cpy k z cells n =>
     simp only [stepOut] at h
     split at h
     ·rename_i α' d' enc' l' t α d enc l hd hr hl
      split at h
      ·rename_i hcond
       obtain ⟨hce,hz⟩:=hcond
       cases h
       have hh:holds s.tab [] = true:=rfl
       simp only [hh,if_true]
       have hcs:cs = []:=by simpa using hce
       subst hcs
       have hc:CopyOb d enc l cells n (.recs d' enc' l'):=hobl _ (List.mem_append_right _ (List.mem_singleton.2 rfl))
       obtain ⟨xs,hx1,hx2,hx3⟩:=hc
       cases hx3
       refine wp_cpy (evOp_sound hΓ hi.base (fun _ _ _ _ _ _ _ h=>mem_of_lookup h) (getOp_ok hi.ents hh) (fun _ _ _ _ h=>mem_of_lookup h) he (by simp)) hi.base (mem_of_lookup hl) hz hx1 hx2 fun w' h1 h2=>?_
       rw [hd]
       refine hK B F _ _ (inv_none hi hS h2 (h1.sub fun j t' es hm=>?_))
       unfold memL setRow at hm
       rcases List.mem_cons.1 hm with hm | hm
       ·cases hm; exact .inl ⟨rfl,rfl,rfl⟩
       ·obtain ⟨h3,h4⟩:=List.mem_filter.1 hm
        exact .inr ⟨by simpa using h4,h3⟩
      ·cases h
     ·rename_i tt α' d' enc' l' t α d enc l hd hr hl
      split at h
      ·rename_i hcond
       obtain ⟨htt,hce,hz⟩:=hcond
       cases h
       have hh:holds s.tab [] = true:=rfl
       simp only [hh,if_true]
       have hcs:cs = []:=by simpa using hce
       subst hcs
       have hc:CopyOb d enc l cells n (.recs d' enc' l'):=hobl _ (List.mem_append_right _ (List.mem_singleton.2 rfl))
       obtain ⟨xs,hx1,hx2,hx3⟩:=hc
       cases hx3
       refine wp_cpy (evOp_sound hΓ hi.base (fun _ _ _ _ _ _ _ h=>mem_of_lookup h) (getOp_ok hi.ents hh) (fun _ _ _ _ h=>mem_of_lookup h) he (by simp)) hi.base (mem_of_lookup hl) hz hx1 hx2 fun w' h1 h2=>?_
       rw [hd]
       refine hK B F _ _ (inv_put hi hni hS hSi (fun e he=>⟨he,(hi.ents e he).grow h2⟩) (h1.sub fun j t' es hm=>?_) htt (by simp) (fun j hj=>rfl) (fun b hb=>by cases hb) (hdst tt hd) ⟨fun _=>.val _ rfl,fun h=>by cases h⟩)
       unfold memL setRow at hm
       rcases List.mem_cons.1 hm with hm | hm
       ·cases hm; exact .inl ⟨rfl,rfl,rfl⟩
       ·obtain ⟨h3,h4⟩:=List.mem_filter.1 hm
        exact .inr ⟨by simpa using h4,h3⟩
      ·cases h
     ·cases h
    | upd k n z off cells =>
     simp only [stepOut] at h
     split at h
     ·rename_i α' d' enc' l' t α d enc l hd hr hl
      split at h
      ·rename_i hcond
       obtain ⟨hfl,hno,hz⟩:=hcond
       cases h
       have hh:holds s.tab [] = true:=rfl
       simp only [hh,if_true]
       have hc:UpdOb d enc l n off cells (.recs d' enc' l'):=hobl _ (List.mem_append_right _ (List.mem_singleton.2 rfl))
       obtain ⟨x,hx,he'⟩:=hc
       cases he'
       have hcs:=ob_of (tab:=s.tab) (g:=[]) (cs:=cs) (obl:=s.obl) (fun p hp=>hobl p (List.mem_append_left _ hp)) rfl
       have hrng:0 ≤ n ∧ n < (l.length:Int):=by
        refine of_decide_eq_true (hcs _ ?_)
        have:=upd_checks he hl
        rw [this]; exact List.mem_singleton.2 rfl
       refine wp_upd (evOp_sound hΓ hi.base (fun _ _ _ _ _ _ _ h=>mem_of_lookup h) (getOp_ok hi.ents hh) (fun _ _ _ _ h=>mem_of_lookup h) he hcs) hi.base (mem_of_lookup hl) hz hrng.1 hrng.2 hfl hno hx fun w' h1 h2=>?_
       rw [hd]
       refine hK B F _ _ (inv_none hi hS h2 (h1.sub fun j t' es hm=>?_))
       unfold memL setRow at hm
       rcases List.mem_cons.1 hm with hm | hm
       ·cases hm; exact .inl ⟨rfl,rfl,rfl⟩
       ·obtain ⟨h3,h4⟩:=List.mem_filter.1 hm
        exact .inr ⟨by simpa using h4,h3⟩
      ·cases h
     ·cases h
    | row e m old spec =>
     simp only [stepOut] at h
     split at h
     ·rename_i x g' t α d enc l hd hr
      split at h
      ·rename_i hcond
       obtain ⟨ht,htl⟩:=hcond
       cases h
       have hc:holds s.tab (x :: g') = true → spec (.recs d enc l) ∧ GoodR (.recs d enc l):=hobl _ (List.mem_append_right _ (List.mem_singleton.2 rfl))
       have hmem:∀ k t' ds,memL ((s.L.filter fun x=>!D.namess t x.2.2).filter fun x=>!(x.1 == t)) k t' ds → memL s.L k t' ds ∧ k ≠ t ∧ D.namess t ds = false:=by
        intro k t' ds hx
        obtain ⟨hx1,hx2⟩:=List.mem_filter.1 hx
        obtain ⟨hx3,hx4⟩:=List.mem_filter.1 hx1
        exact ⟨hx3,by simpa using hx2,by simpa using hx4⟩
       cases hh:holds s.tab (x :: g') with
       | false =>
        simp only [Bool.false_eq_true,if_false]
        rw [hd]
        exact hK B F _ _ (inv_put hi hni hS hSi (fun e he=>⟨(List.mem_filter.1 he).1,hi.ents e (List.mem_filter.1 he).1⟩) (hi.base.sub fun k t' ds h=>(hmem k t' ds h).1) ht hkeys (fun j hj=>rfl) (fun b hb=>by cases hb) (hdst t hd) ⟨(fun h=>by rw [hh] at h; cases h),fun _=>rfl⟩)
       | true =>
        simp only [if_true]
        have hcs:=ob_of (tab:=s.tab) (g:=x :: g') (cs:=cs) (obl:=s.obl) (fun p hp=>hobl p (List.mem_append_left _ hp)) hh
        refine wp_row (evOp_sound hΓ hi.base (fun _ _ _ _ _ _ _ h=>mem_of_lookup h) (getOp_ok hi.ents hh) (fun _ _ _ _ h=>mem_of_lookup h) he hcs) hi.base (hc hh).1 (hc hh).2 (t:=t) (M':=memL ((s.L.filter fun x=>!D.namess t x.2.2).filter fun x=>!(x.1 == t)))
         htl (fun k hk=>by cases hk) (fun k t' ds hx=>?_) fun v w' F' r h1 h2 h3=>?_
        ·obtain ⟨h5,h6,h7⟩:=hmem k t' ds hx
         exact ⟨h5,h6,by simp,h7⟩
        ·obtain ⟨F2,h4,h5⟩:=h1.settleRow (k:=t) (.inl ⟨rfl,rfl,rfl⟩)
         have h6:Rep F2 w' _ (.recs d enc l) v:=Rep.sealRow h4 (k:=t) (.inl ⟨rfl,rfl,rfl⟩) (h3.grow h5)
         rw [hd]
         refine hK _ F2 _ _ (inv_put hi hni hS hSi (fun e he=>?_) (h4.sub fun k t' ds h=>.inr ⟨(hmem k t' ds h).2.1,.inr h⟩) ht hkeys (fun j hj=>rfl) (fun b hb=>by cases hb) (hdst t hd) ⟨fun _=>h6,fun h=>by rw [hh] at h; cases h⟩)
         obtain ⟨h7,h8⟩:=List.mem_filter.1 he
         refine ⟨h7,?_⟩
         have h9:=((hi.ents e h7).grow h2).grow h5
         exact ⟨(fun hq=>by obtain ⟨v,h10,h11⟩:=h9.1 hq; exact ⟨v,h10,h11.rebox t (setB_ne _ _ _) (by simpa using h8)⟩),h9.2⟩
      ·cases h
     ·rename_i old g2 dst2 x2 old2 t α d enc l hd hr
      split at h
      ·rename_i hcond
       obtain ⟨ht,htl⟩:=hcond
       cases h
       have hh:holds s.tab [] = true:=rfl
       simp only [hh,if_true]
       have hc:spec (.recs d enc l) ∧ GoodR (.recs d enc l):=hobl _ (List.mem_append_right _ (List.mem_singleton.2 rfl))
       have hcs:=ob_of (tab:=s.tab) (g:=[]) (cs:=cs) (obl:=s.obl) (fun p hp=>hobl p (List.mem_append_left _ hp)) rfl
       refine wp_row (evOp_sound hΓ hi.base (fun _ _ _ _ _ _ _ h=>mem_of_lookup h) (getOp_ok hi.ents hh) (fun _ _ _ _ h=>mem_of_lookup h) he hcs) hi.base hc.1 hc.2 (t:=t) (M':=memL ((((dropKey s.L old).filter fun x=>!D.namess t x.2.2)).filter fun x=>!(x.1 == t)))
        htl (fun k hk=>row_old he hk) (fun k t' ds hx=>?_) fun v w' F' r h1 h2 h3=>?_
       ·obtain ⟨hx1,hx2⟩:=List.mem_filter.1 hx
        obtain ⟨hx3,hx4⟩:=List.mem_filter.1 hx1
        obtain ⟨hx5,hx6⟩:=dropKey_mem hx3
        exact ⟨hx5,by simpa using hx2,hx6,by simpa using hx4⟩
       ·rw [hd]
        refine hK _ F' _ _ (inv_put hi hni hS hSi (fun e he=>?_) (h1.sub fun k t' ds h=>?_) ht (by simp) (fun j hj=>rfl) (fun b hb=>by cases hb) (hdst t hd) ⟨fun _=>h3,fun h=>by cases h⟩)
        rotate_left
        ·unfold memL putBox at h
         rcases List.mem_cons.1 h with h | h
         ·cases h; exact .inl ⟨rfl,rfl,rfl⟩
         ·exact .inr h
        obtain ⟨h4,h5⟩:=List.mem_filter.1 he
        refine ⟨h4,?_⟩
        have h6:=(hi.ents e h4).grow h2
        exact ⟨(fun hq=>by obtain ⟨v,h7,h8⟩:=h6.1 hq; exact ⟨v,h7,h8.rebox t (setB_ne _ _ _) (by simpa using h5)⟩),h6.2⟩
      ·cases h
     ·cases h
    | arow ty z m dd =>
     simp only [stepOut] at h
     split at h
     ·rename_i t α d enc l hd hr
      split at h
      ·rename_i hcond
       obtain ⟨ht,htl,hm,hce⟩:=hcond
       cases h
       have hh:holds s.tab [] = true:=rfl
       simp only [hh,if_true]
       have hcs:cs = []:=by simpa using hce
       subst hcs
       have hc:MkOb z dd.cells m (.recs d enc l) ∧ GoodR (.recs d enc l):=hobl _ (List.mem_append_right _ (List.mem_singleton.2 rfl))
       refine wp_arow (evOp_sound hΓ hi.base (fun _ _ _ _ _ _ _ h=>mem_of_lookup h) (getOp_ok hi.ents hh) (fun _ _ _ _ h=>mem_of_lookup h) he (by simp)) hi.base hc.1 hc.2 (by simp only [maxLen]; omega) (t:=t) htl
        (M':=memL ((s.L.filter fun x=>!D.namess t x.2.2).filter fun x=>!(x.1 == t))) (fun k t' ds hx=>?_) fun v w' r h1 h2 h3=>?_
       ·obtain ⟨hx1,hx2⟩:=List.mem_filter.1 hx
        obtain ⟨hx3,hx4⟩:=List.mem_filter.1 hx1
        exact ⟨hx3,by simpa using hx2,by simpa using hx4⟩
       ·rw [hd]
        refine hK _ F _ _ (inv_put hi hni hS hSi (fun e he=>?_) (h1.sub fun k t' ds h=>?_) ht (by simp) (fun j hj=>rfl) (fun b hb=>by cases hb) (hdst t hd) ⟨fun _=>h3,fun h=>by cases h⟩)
        rotate_left
        ·unfold memL putBox at h
         rcases List.mem_cons.1 h with h | h
         ·cases h; exact .inl ⟨rfl,rfl,rfl⟩
         ·exact .inr h
        obtain ⟨h4,h5⟩:=List.mem_filter.1 he
        refine ⟨h4,?_⟩
        have h6:=(hi.ents e h4).grow h2
        exact ⟨(fun hq=>by obtain ⟨v,h7,h8⟩:=h6.1 hq; exact ⟨v,h7,h8.rebox t (setB_ne _ _ _) (by simpa using h5)⟩),h6.2⟩
      ·cases h
     ·cases h
    | fill k z m dd =>
     simp only [stepOut] at h
     split at h
     ·rename_i α' d' enc' l' t α d0 enc l hd hr hl
      split at h
      ·rename_i hcond
       obtain ⟨hce,hz,hpos⟩:=hcond
       cases h
       have hh:holds s.tab [] = true:=rfl
       simp only [hh,if_true]
       have hcs:cs = []:=by simpa using hce
       subst hcs
       have hlm:l.length = m:=of_decide_eq_true (hobl _ (List.mem_append_right _ List.mem_cons_self))
       have hc:MkOb z dd.cells m (.recs d' enc' l') ∧ GoodR (.recs d' enc' l'):=hobl _ (List.mem_append_right _ (List.mem_cons_of_mem _ (List.mem_singleton.2 rfl)))
       refine wp_fill (evOp_sound hΓ hi.base (fun _ _ _ _ _ _ _ h=>mem_of_lookup h) (getOp_ok hi.ents hh) (fun _ _ _ _ h=>mem_of_lookup h) he (by simp)) hi.base (mem_of_lookup hl) hz hlm hpos hc.1 hc.2 fun w' h1 h2=>?_
       rw [hd]
       refine hK B F _ _ (inv_none hi hS h2 (h1.sub fun j t' es hm=>?_))
       unfold memL setRow at hm
       rcases List.mem_cons.1 hm with hm | hm
       ·cases hm; exact .inl ⟨rfl,rfl,rfl⟩
       ·obtain ⟨h3,h4⟩:=List.mem_filter.1 hm
        exact .inr ⟨by simpa using h4,h3⟩
      ·cases h
     ·cases h
    | turn k z m dd =>
     simp only [stepOut] at h
     split at h
     ·rename_i α' d' enc' l' t ds hd hr hl
      split at h
      ·rename_i hcond
       obtain ⟨hce,hkl,hm⟩:=hcond
       cases h
       have hh:holds s.tab [] = true:=rfl
       simp only [hh,if_true]
       have hcs:cs = []:=by simpa using hce
       subst hcs
       have hc:MkOb z dd.cells m (.recs d' enc' l') ∧ GoodR (.recs d' enc' l'):=hobl _ (List.mem_append_right _ (List.mem_singleton.2 rfl))
       refine wp_turn (evOp_sound hΓ hi.base (fun _ _ _ _ _ _ _ h=>mem_of_lookup h) (getOp_ok hi.ents hh) (fun _ _ _ _ h=>mem_of_lookup h) he (by simp)) hi.base (mem_of_lookup hl) hkl (by simp only [maxLen]; omega) hc.1 hc.2 fun w' r h1 h2 h3=>?_
       rw [hd]
       refine hK _ F _ _ (inv_turn hi hS h2 h3 (h1.sub fun j t' es hm=>?_) toElm_val)
       unfold memL setRow at hm
       rcases List.mem_cons.1 hm with hm | hm
       ·cases hm; exact .inl ⟨rfl,rfl,rfl⟩
       ·obtain ⟨h4,h5⟩:=List.mem_filter.1 hm
        unfold subL at h4
        obtain ⟨y,h6,h7⟩:=List.mem_map.1 h4
        obtain ⟨h8,h9⟩:=List.mem_filter.1 h6
        cases h7
        exact .inr ⟨by simpa using h5,_,h8,rfl⟩
      ·cases h
     ·cases h
    | store k off cells =>
     simp only [stepOut] at h
     split at h
     ·rename_i hd
      split at h
      ·rename_i hcond
       obtain ⟨hfl,hce⟩:=hcond
       cases h
       have hh:holds s.tab [] = true:=rfl
       simp only [hh,if_true]
       have hcs:cs = []:=by simpa using hce
       subst hcs
       refine wp_store (evOp_sound hΓ hi.base (fun _ _ _ _ _ _ _ h=>mem_of_lookup h) (getOp_ok hi.ents hh) (fun _ _ _ _ h=>mem_of_lookup h) he (by simp)) hi.base hfl fun w' h1 h2=>?_
       rw [hd]
       exact hK B F _ _ (inv_none hi hS h2 (h1.sub fun _ _ _=>memL_store))
      ·cases h
     ·cases h
theorem step_obl {C CB} {orc:List (Nat × D)} {orb:List (Nat × CBd)} {o:Oper} {s':ES} (h:stepOp C CB Γ nt orc orb ops i o s = some s'):∀ p ∈ s.obl,p ∈ s'.obl:=by
 unfold stepOp at h
 split at h
 ·cases h
 ·split at h
  ·unfold stepPick at h
   repeat' (first | (cases h; done) | (cases h; exact fun p hp=>hp) | split at h)
  ·rename_i op _
   generalize evOp Γ s.L (getOp s.K _) o.dst o.op = r at h
   cases r with
   | none=>cases h
   | some oc =>
    obtain ⟨out,cs⟩:=oc
    simp only [Option.bind] at h
    cases out <;> simp only [stepOut] at h <;> repeat' (first | (cases h; done) | (cases h; exact fun p hp=>hp) | (cases h; exact fun p hp=>List.mem_append_left _ hp) | (cases h; exact fun p hp=>List.mem_append_left _ (List.mem_append_left _ hp)) | split at h)
theorem evOps_obl {C CB} {orc:List (Nat × D)} {orb:List (Nat × CBd)} {fz:List (Nat × List Nat)}:∀ (l:List Oper) (i:Nat) {s s':ES},evOps C CB Γ nt orc orb ops fz l i s = some s' → ∀ p ∈ s.obl,p ∈ s'.obl
 | [],i,s,s',h,p,hp=>by cases h; rw [settles_obl]; exact hp
 | o :: l,i,s,s',h,p,hp=>by
  unfold evOps at h
  split at h
  ·rename_i s1 h1
   exact evOps_obl l (i + 1) h p (step_obl h1 p (by rw [settles_obl]; exact hp))
  ·cases h
theorem evOps_soundL (hΓ:ΓOK P Γ) {orc:List (Nat × D)} {orb:List (Nat × CBd)} {fz:List (Nat × List Nat)} (l2:List Oper):∀ (l:List Oper) (i:Nat) {s s':ES} {B:Env} {F:Fz} {a:Act} {w:World},(∀ j,j < l.length → l[j]? = ops[i + j]?) → evOps (CX P) (CallsB P) Γ nt orc orb ops fz l i s = some s' → (∀ p ∈ s'.obl,p) →
  InvR nt ops F0 w0 B F s (fun j=>j < i) a w → (∀ B' F' a' w',InvR nt ops F0 w0 B' F' s' (fun j=>j < i + l.length) a' w' → wpList P ops.toArray Q l2 a' w') → wpList P ops.toArray Q (l ++ l2) a w
 | [],i,s,s',B,F,a,w,hl,h,hobl,hi,hQ=>by
  cases h
  obtain ⟨F',hi'⟩:=hi.settles fz
  exact hQ B F' a w hi'
 | o :: l,i,s,s',B,F,a,w,hl,h,hobl,hi,hQ=>by
  unfold evOps at h
  split at h
  ·rename_i s1 h1
   have ho:ops[i]? = some o:=by have:=hl 0 (by simp); simpa using this.symm
   obtain ⟨F',hi'⟩:=hi.settles fz
   have hst:=step_sound (Q:=Q) (S':=fun j=>j < i + 1) hΓ hi' (by simp) (fun j hj=>by omega) (by simp) ho h1 (fun p hp=>hobl p (evOps_obl l (i + 1) h p hp)) (K:=wpList P ops.toArray Q (l ++ l2)) (fun B' F' a' w' hi' =>
    evOps_soundL hΓ l2 l (i + 1) (fun j hj=>by have:=hl (j + 1) (by simp; omega); simpa [Nat.add_assoc,Nat.add_comm 1 j] using this) h hobl hi' (fun B'' F'' a'' w'' hi''=>hQ B'' F'' a'' w'' (by simpa [Nat.add_assoc,Nat.add_comm 1 l.length] using hi'')))
   rw [List.cons_append]
   unfold wpList
   split
   ·rename_i hw
    rw [if_pos hw] at hst; exact .inl hst
   ·rename_i hw
    rw [if_neg hw] at hst; exact hst
  ·cases h
theorem evOps_sound (hΓ:ΓOK P Γ) {orc:List (Nat × D)} {orb:List (Nat × CBd)} {fz:List (Nat × List Nat)} (l:List Oper) (i:Nat) {s s':ES} {B:Env} {F:Fz} {a:Act} {w:World} (hl:∀ j,l[j]? = ops[i + j]?) (h:evOps (CX P) (CallsB P) Γ nt orc orb ops fz l i s = some s') (hobl:∀ p ∈ s'.obl,p)
  (hi:InvR nt ops F0 w0 B F s (fun j=>j < i) a w) (hQ:∀ B' F' a' w',InvR nt ops F0 w0 B' F' s' (fun j=>j < i + l.length) a' w' → Q .normal a' w'):wpList P ops.toArray Q l a w:=by
 have:=evOps_soundL (Q:=Q) hΓ [] l i (fun j _=>hl j) h hobl hi (fun B' F' a' w' hi'=>wpList_nil (hQ B' F' a' w' hi'))
 simpa using this
end
end Go.Proofs.YtibgdilkodjojaaGreatDoor.RX
