import Derived.Test.YtibgdilkodjojaaGreatDoorQRxGen
set_option linter.all false
namespace Go.Proofs.YtibgdilkodjojaaGreatDoor.RX
open Go.RowKit
def cG (l:Nat) (c:Code):Code:=(findLabel (cI c) l).getD .skip
section
variable {P:Program} {nt:Nat} {F0:Fz} {w0:Pt P} {K:List (Nat × D)} {L:Boxes} {Q:Exit → Act → World → Prop}
def Lg (ro:Option Nat) (P:Program) (c rest:Code) (Q:Exit → Act → World → Prop) (a:Act) (w:World):Prop :=
 ∀ (b:Frame) (k:List Item) (cs:List Frame),b.roundOf = ro → ∃ e a' w',Q e a' w' ∧ ArrivesIn (Machine.fenced P (Fr ro)) P (lone (b.atR a (.code rest :: .inScope c :: k)) cs w) b k cs e a' w'
def WG (P:Program) (nt:Nat) (F0:Fz) (w0:Pt P) (K:List (Nat × D)) (L:Boxes) (c rest:Code) (Q:Exit → Act → World → Prop):Prop :=
 ∀ a w,St nt F0 w0 K L a w → Lg w0.rnd P c rest Q a w
def goes (ro:Option Nat) (P:Program) (c:Code) (Q:Exit → Act → World → Prop):Exit → Act → World → Prop
 | .goto l,a,w=>∃ rest,findLabel c l = some rest ∧ Lg ro P c rest Q a w
 | e,a,w=>Q e a w
theorem Wp.scopeG {c:Code} (h:WG P nt F0 w0 K L c c Q):Wp P nt F0 w0 K L (.scope c) Q:=by
 intro a w hs b k cs hro _ _
 obtain ⟨e,a',w',hq,harr⟩:=h a w hs b k cs hro
 exact ⟨e,a',w',hq,.of_steps (.one (fr_calm _) stepR_scope) harr⟩
theorem WG.pass {c rest:Code} (h:Wp P nt F0 w0 K L rest (goes w0.rnd P c Q)):WG P nt F0 w0 K L c rest Q:=by
 intro a w hs b k cs hro
 obtain ⟨e,a₁,w₁,hq,harr⟩:=h a w hs b (.inScope c :: k) cs hro trivial (Fr.room _ _)
 cases e with
 | normal=>exact ⟨.normal,a₁,w₁,hq,StepsIn.trans harr (.one (fr_calm _) stepR_inScope)⟩
 | exit id=>exact ⟨.exit id,a₁,w₁,hq,fun k' hk=>harr.1 k' (by simp [exitTo,hk]),fun hr hk=>harr.2 hr (by simp [exitTo,hk])⟩
 | goto l =>
  obtain ⟨r,hf,hl⟩:=hq
  obtain ⟨e₂,a₂,w₂,hq₂,harr₂⟩:=hl b k cs hro
  exact ⟨e₂,a₂,w₂,hq₂,.of_steps (harr.1 _ (by simp [gotoIn,hf])) harr₂⟩
 | ret=>exact ⟨_,a₁,w₁,hq,harr⟩
 | panic ch=>exact ⟨_,a₁,w₁,hq,harr⟩
 | outgrown=>exact ⟨_,a₁,w₁,hq,harr⟩
theorem Wp.goto {l:Nat} (h:To nt F0 w0 K L (.goto l) Q):Wp P nt F0 w0 K L (.goto l) Q:=fun a w hs=>wpIn_goto (h a w hs)
theorem To.goto {c rest:Code} {l:Nat} (hf:findLabel c l = some rest) (h:WG P nt F0 w0 K L c rest Q):To nt F0 w0 K L (.goto l) (goes w0.rnd P c Q):=fun a w hs=>⟨rest,hf,h a w hs⟩
theorem To.goesO {c:Code} {e:Exit} (he:e = .normal ∨ e = .ret ∨ ∃ id,e = .exit id) (h:To nt F0 w0 K L e Q):To nt F0 w0 K L e (goes w0.rnd P c Q):=by
 rcases he with rfl | rfl | ⟨id,rfl⟩ <;> exact h
theorem To.thenG {N:Act → World → Prop} {l:Nat} (h:To nt F0 w0 K L (.goto l) Q):To nt F0 w0 K L (.goto l) (Exit.then N Q):=h
end
end Go.Proofs.YtibgdilkodjojaaGreatDoor.RX
