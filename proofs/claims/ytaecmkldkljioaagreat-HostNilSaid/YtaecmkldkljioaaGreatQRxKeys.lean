import Derived.Test.YtaecmkldkljioaaGreatQRxShelf
import Derived.Sort.KeysCollected
import Derived.CallsIn
set_option linter.all false
namespace Go.Proofs.YtaecmkldkljioaaGreat.RX
open Go.RowKit Go.Sort Go.Maps
open Go.WideElems (Fit rd rg)
open Go.ChangeShapes Go.WideShapes
section
variable {P:Program}
def anyR:Value → Option (DataW Unit × List MemPlace):=fun _=>some (.nil,[])
theorem callsB_keys {f g bt t:Nat} {kk:Option IntKind} {ag:Bool} {α:Type} {d:α} {enc:α → List D} {l:List (MK × α)} (hf:FOK P f)
  (hc:∀ (mb:Option Nat) (W:World),CallsIn Fence.wide 5 P f #[.map mb] W fun e w'=>e = .returned (.func (.func g) #[] #[.pointer (some ⟨W.heap.size,0,none⟩)]) ∧ w' = W.alloc (.cells #[.map mb] bt)) :
  CallsB P f [.mp LIM] [(LIM,t,[.mapc kk ag d enc l])] (.fn g [.own 1 0]) [(LIM,t,[.mapc kk ag d enc l]),(1,bt,[.mp LIM])]:=by
 refine ⟨hf,fun F w1 B args hb hr=>?_⟩
 cases hr with
 | cons _ v _ vs hv hs =>
  cases hs
  cases hv with
  | mp _ b hB =>
   refine (callsIn_wide.1 (hc (some b) w1.w)).mono ?_
   rintro e w' ⟨rfl,rfl⟩
   have hno:∀ k,D.namess k [D.mp LIM] = true → setB B 1 (.box w1.w.heap.size) k = B k:=fun k hk=>setB_ne B 1 _ k (fun e=>by subst e; exact absurd hk (by decide))
   obtain ⟨h1,h2⟩:=hb.box (t:=1) (ty:=bt) (cells:=[.mp LIM]) (vs:=[.map (some b)]) (.cons _ _ _ _ (.mp _ b hB) .nil) rfl (B':=setB B 1 (.box w1.w.heap.size)) (setB_self _ _ _) (fun k hk=>setB_ne _ _ _ _ (by have:LIM = 1000000:=rfl; omega))
    (M':=memL [(LIM,t,[.mapc kk ag d enc l])]) (fun F w vs h=>h.reenv hno) (fun k t' ds h=>by
     have h:=List.mem_singleton.1 h
     cases h
     exact ⟨List.mem_cons_self,by decide,setB_ne _ _ _ _ (by decide),fun F w vs h=>h.reenv fun k hk=>by simp [D.namess,D.names] at hk⟩)
   refine ⟨_,F,setB B 1 (.box w1.w.heap.size),rfl,.fn _ _ _ (.cons _ _ _ _ (.own 1 0 _ (setB_self _ _ _)) .nil),h1.sub fun k t' ds h=>?_⟩
   rcases List.mem_cons.1 h with h | h
   ·cases h; exact .inr List.mem_cons_self
   ·have h:=List.mem_singleton.1 h
    cases h; exact .inl ⟨rfl,rfl,rfl⟩
end
end Go.Proofs.YtaecmkldkljioaaGreat.RX
