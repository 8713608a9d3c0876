import Derived.Test.YtibgdilkodjojaaGreatDoorQRxSeq
import Derived.OrdersIn
import Derived.TacticsIn
import Derived.Scope
set_option linter.all false
namespace Go.Proofs.YtibgdilkodjojaaGreatDoor.RX
open Go.RowKit
def Fr (ro:Option Nat):Fence:={ Fence.wide with round:=ro }
def XC (ro:Option Nat) (P:Program) (c:Code) (Q:Exit → Act → World → Prop) (a:Act) (w:World):Prop:=c.wpIn (Fr ro) 0 P Q a w
theorem XC.wp {P:Program} {c:Code} {Q:Exit → Act → World → Prop} {a:Act} {w:World} (h:XC none P c Q a w):c.wp P Q a w:=wpIn_wide.1 h
theorem XC.of {P:Program} {c:Code} {Q:Exit → Act → World → Prop} {a:Act} {w:World} (h:c.wp P Q a w):XC none P c Q a w:=wpIn_wide.2 h
theorem Fr.room (ro:Option Nat) (n:Nat):(Fr ro).room n:=fun _ h=>by cases h
theorem fr_calm {ro:Option Nat} {P:Program} (m:Machine):m.fenced P (Fr ro):=fenced_wide P m
theorem stepR_scope {P:Program} {b:Frame} {a:Act} {k:List Item} {cs:List Frame} {w:World} {c:Code}:step P (lone (b.atR a (.code (.scope c) :: k)) cs w) = .next (lone (b.atR a (.code c :: .inScope c :: k)) cs w) :=
 step_lone_go (by simp [stepG,stepG.exec,Frame.atR])
theorem stepR_inScope {P:Program} {b:Frame} {a:Act} {k:List Item} {cs:List Frame} {w:World} {c:Code}:step P (lone (b.atR a (.inScope c :: k)) cs w) = .next (lone (b.atR a k) cs w) :=
 step_lone_go (by simp [stepG,stepG.exec,Frame.atR])
theorem XC.scope {ro:Option Nat} {P:Program} {c:Code} {Q:Exit → Act → World → Prop} {a:Act} {w:World} (h:XC ro P c (Exit.noGoto Q) a w):XC ro P (.scope c) Q a w:=by
 intro b k cs hro _ _
 obtain ⟨e,a₁,w₁,hq,harr⟩:=h b (.inScope c :: k) cs hro trivial (Fr.room _ _)
 cases e with
 | normal=>exact ⟨.normal,a₁,w₁,hq,.head (fr_calm _) stepR_scope (StepsIn.trans harr (.one (fr_calm _) stepR_inScope))⟩
 | exit id=>exact ⟨.exit id,a₁,w₁,hq,fun k' hk=>.head (fr_calm _) stepR_scope (harr.1 k' (by simp [exitTo,hk])),fun hr hk=>let ⟨k₁,h1,h2⟩:=harr.2 hr (by simp [exitTo,hk]); ⟨k₁,h1,.head (fr_calm _) stepR_scope h2⟩⟩
 | goto l=>exact hq.elim
 | ret=>exact ⟨_,a₁,w₁,hq,.of_steps (.one (fr_calm _) stepR_scope) harr⟩
 | panic ch=>exact ⟨_,a₁,w₁,hq,.of_steps (.one (fr_calm _) stepR_scope) harr⟩
 | outgrown=>exact ⟨_,a₁,w₁,hq,.of_steps (.one (fr_calm _) stepR_scope) harr⟩
def nrm (Q:Exit → Act → World → Prop):Exit → Act → World → Prop
 | .normal,a,w=>Q .normal a w
 | _,_,_=>False
theorem nrm_out {Q:Exit → Act → World → Prop}:¬ LetsOut (nrm Q):=fun ⟨_,_,h⟩=>h
theorem XC.nrm {ro:Option Nat} {P:Program} {c:Code} {Q:Exit → Act → World → Prop} {a:Act} {w:World} (h:XC ro P c (RX.nrm Q) a w):XC ro P c Q a w :=
 wpIn_mono h fun e a w h=>by cases e <;> first | exact h | exact h.elim
def _root_.Go.Oper.nd (o:Oper):Prop:=∀ c,o.op ≠ .defer c
section
variable {ro:Option Nat} {P:Program} {o:Oper} {ops:Array Oper} {a:Act} {w:World} {K:Act → World → Prop} {Q:Exit → Act → World → Prop}
theorem callsIn_fr {n:Nat} {f:FuncId} {args:Array Value} {R:Ending → World → Prop} (h:Calls P f args w R):CallsIn (Fr ro) n P f args w R:=callsIn_wide.2 h
theorem rowsIn_fr {n:Nat} {row:String} {args:Array Value} {R:Value → World → Prop} (h:Rows P row args w R):Go.RowsIn (Fr ro) n P row args w R:=fun c cs _ =>
 let ⟨v,w',r,s⟩:=h c cs
 ⟨v,w',r,stepsIn_wide.2 s⟩
theorem upon_in (hQ:¬ LetsOut Q) {r:Result Next} (h:o.upon P a K Q r):o.uponIn (Fr ro) 0 P a K Q r:=by
 have hd:((Fr ro).depth.isSome = true → 1 ≤ 0):=fun h=>by cases h
 cases r with
 | ok x w' =>
  cases x <;> first
   | exact h
   | exact h.elim
   | exact ⟨hd,(callsIn_fr h)⟩
   | exact ⟨hd,rowsIn_fr h⟩
 | halt x w'=>cases x <;> first | exact h | exact h.elim
theorem oper_in (hQ:¬ LetsOut Q) (hn:o.nd) (h:o.wp P a w K Q):o.wpIn (Fr ro) 0 P a w K Q:=by
 unfold Oper.wpIn
 rw [Oper.semAt_eq _ _ _ hn]
 exact ⟨fun _ _=>trivial,upon_in hQ h⟩
theorem list_in (hQ:¬ LetsOut Q):∀ {l:List Oper} {a:Act} {w:World},(∀ o ∈ l,o.nd) → wpList P ops Q l a w → wpListIn (Fr ro) 0 P ops Q l a w
 | [],_,_,_,h=>h
 | o :: l,a,w,hn,h=>by
  unfold wpList at h
  unfold wpListIn
  split at h
  ·rename_i hw
   rw [if_pos hw]
   rcases h with h | h
   ·refine oper_in hQ (hn o List.mem_cons_self) ?_
    exact Oper.wp_mono (fun a w h=>list_in hQ (fun o ho=>hn o (List.mem_cons_of_mem _ ho)) h) h
   ·exact absurd h.2 hQ
  ·rename_i hw
   rw [if_neg hw]
   exact ⟨fun _ _=>trivial,list_in hQ (fun o ho=>hn o (List.mem_cons_of_mem _ ho)) h⟩
theorem any_in {md:Region.Mode} (hQ:¬ LetsOut Q) (hn:∀ o ∈ ops.toList,o.nd):∀ {fuel:Nat} {listed:Array Bool} {a:Act} {w:World},wpAny P md ops Q fuel listed a w → wpAnyIn (Fr ro) 0 P md ops Q fuel listed a w
 | 0,_,_,_,h=>h
 | fuel + 1,listed,a,w,h=>by
  unfold wpAny at h
  unfold wpAnyIn
  refine ⟨h.1,fun i hi=>?_⟩
  have h1:=h.2 i hi
  unfold wpOp at h1
  unfold wpOpIn
  split at h1
  ·rename_i hi'; simp only [hi']; exact any_in hQ hn h1
  ·rename_i o ho
   simp only [ho]
   split at h1
   ·rename_i hw
    rw [if_pos hw]
    rcases h1 with h1 | h1
    ·refine oper_in hQ (hn o (Array.mem_toList_iff.2 (Array.mem_of_getElem? ho))) ?_
     exact Oper.wp_mono (fun a w h=>any_in hQ hn h) h1
    ·exact absurd h1.2 hQ
   ·rename_i hw
    rw [if_neg hw]
    exact ⟨fun _ _=>trivial,any_in hQ hn h1⟩
theorem region_in {id:Nat} {l:List Oper} (hn:∀ o ∈ l,o.nd) (h:wpList P l.toArray (nrm Q) l a w):XC ro P (.region id l.toArray false) Q a w :=
 XC.nrm (wpIn_region_lit (list_in nrm_out hn h))
theorem region_any_in (hm:P.follows .mixedOrders = true) {id:Nat} (hn:∀ o ∈ ops.toList,o.nd) (h:wpAny P .any ops (nrm Q) ops.size (Array.replicate ops.size false) a { w with drawn:=w.drawn + 1 }):XC ro P (.region id ops true) Q a w :=
 XC.nrm (wpIn_region_draw fun t=>by
  simp only [Region.schedule,hm,Bool.true_or,if_true]
  exact wpAnyIn_sound ops.size t _ a _ (any_in nrm_out hn h))
end
section
variable {C:Nat → List D → D → Prop} {CB:Nat → List D → Boxes → D → Boxes → Prop} {Γ:Nat → Option TI} {nt:Nat} {orc:List (Nat × D)} {orb:List (Nat × CBd)} {ops:List Oper}
theorem evOp_nd {L:Boxes} {get:Operand → Option D} {dst:Option Nat} {op:Op} {r:Out × List Bool} (h:evOp Γ L get dst op = some r):∀ c,op ≠ .defer c:=by
 rintro c rfl
 unfold evOp evX evOp0 at h
 cases h
theorem step_nd {i:Nat} {o:Oper} {s s':ES} (h:stepOp C CB Γ nt orc orb ops i o s = some s'):o.nd:=by
 intro c hc
 unfold stepOp at h
 split at h
 ·cases h
 ·rw [hc] at h
  simp only [Option.bind_eq_some_iff] at h
  obtain ⟨r,h,_⟩:=h
  exact evOp_nd h c rfl
theorem evOps_nd {fz:List (Nat × List Nat)}:∀ (l:List Oper) (i:Nat) {s s':ES},evOps C CB Γ nt orc orb ops fz l i s = some s' → ∀ o ∈ l,o.nd
 | [],_,_,_,_=>fun o ho=>by simp at ho
 | o :: l,i,s,s',h=>by
  unfold evOps at h
  split at h
  ·rename_i s1 h1
   intro x hx
   rcases List.mem_cons.1 hx with rfl | hx
   ·exact step_nd h1
   ·exact evOps_nd l (i + 1) h x hx
  ·cases h
theorem stepD_nd {L0:Boxes} {i:Nat} {o:Oper} {s s':DS} (h:stepD C Γ nt orc ops L0 i o s = some s'):o.nd:=by
 intro c hc
 unfold stepD at h
 simp only at h
 split at h
 ·cases h
 ·rw [hc] at h
  simp only at h
  split at h
  ·simp only [Option.map_eq_some_iff,Option.bind_eq_some_iff] at h
   obtain ⟨_,⟨r,h,_⟩,_⟩:=h
   exact evOp_nd h c rfl
  ·cases h
theorem evOpsD_nd {L0:Boxes}:∀ (l:List Oper) (i:Nat) {s s':DS},evOpsD C Γ nt orc ops L0 l i s = some s' → ∀ o ∈ l,o.nd
 | [],_,_,_,_=>fun o ho=>by simp at ho
 | o :: l,i,s,s',h=>by
  unfold evOpsD at h
  split at h
  ·rename_i s1 h1
   intro x hx
   rcases List.mem_cons.1 hx with rfl | hx
   ·exact stepD_nd h1
   ·exact evOpsD_nd l (i + 1) h x hx
  ·cases h
end
end Go.Proofs.YtibgdilkodjojaaGreatDoor.RX
