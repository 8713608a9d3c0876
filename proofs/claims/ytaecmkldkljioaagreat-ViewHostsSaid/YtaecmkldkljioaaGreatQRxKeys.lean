import Derived.Test.YtaecmkldkljioaaGreatQRxShelf
import Derived.Sort.KeysCollected
import Derived.CallsIn
set_option linter.all false
namespace Go.Proofs.YtaecmkldkljioaaGreat.RX
open Go.RowKit Go.Sort Go.Maps
open Go.WideElems (Fit rd rg)
open Go.ChangeShapes Go.WideShapes
def keyStr:MK → List UInt8 | .inl s=>s | .inr _=>[]
def keysS {α:Type} (l:List (MK × α)):List (List UInt8):=strSort (l.map fun p=>keyStr p.1)
def keysOkS {α:Type} (l:List (MK × α)):Bool:=decide (l.length * 17 ≤ limit) && l.all fun p=>decide ((keyStr p.1).length ≤ limit)
section
variable {P:Program}
def anyR:Value → Option (DataW Unit × List MemPlace):=fun _=>some (.nil,[])
theorem ents_reads {F:Fz} {w:World} {ag:Bool} {α:Type} {enc:α → List D} {k:TypeId} (hk:P.underlying k = some .string):∀ {l:List (MK × α)} {es:List MapEntry},EntsOK F w none ag enc l es → (∀ p ∈ l,(keyStr p.1).length ≤ maxLen) →
  (∀ x ∈ es,∃ y,rd P k anyR x = some y) ∧ (es.map (rg P k anyR)).map (fun p=>strOf p.1) = l.map fun p=>keyStr p.1
 | _,_,.nil,_=>⟨fun x hx=>(by cases hx),rfl⟩
 | _,_,.cons x v l e es hke hx hv hr,hl=>by
  obtain ⟨h1,h2⟩:=ents_reads hk hr fun p hp=>hl p (List.mem_cons_of_mem _ hp)
  have hs:∃ s,x = .inl s:=by
   cases x with
   | inl s=>exact ⟨s,rfl⟩
   | inr n=>exact absurd rfl hx
  obtain ⟨s,rfl⟩:=hs
  have hlen:s.length ≤ maxLen:=hl _ List.mem_cons_self
  have hrd:rd P k anyR e = some (.string s,.nil):=by
   unfold rd keyOf
   rw [hke]
   have hsz:({ data:=s.toArray }:ByteArray).size ≤ maxLen:=hlen
   simp [MK.val,mapKey,hk,anyR,hsz]
  refine ⟨fun y hy=>?_,?_⟩
  ·rcases List.mem_cons.1 hy with rfl | hy
   ·exact ⟨_,hrd⟩
   ·exact h1 y hy
  ·rw [List.map_cons,List.map_cons,List.map_cons,h2]
   have:rg P k anyR e = (.string s,.nil):=by unfold rg; rw [hrd]; rfl
   rw [this]; rfl
theorem map_owns {F:Fz} {w:World} {b:Nat} {ag:Bool} {α:Type} {enc:α → List D} {l:List (MK × α)} {k:TypeId} (hk:P.underlying k = some .string) (h:MapOK F w b none ag enc l) (hok:keysOkS l = true) :
  ∃ D0:DataW Unit,w.ownsMap P k anyR b l.length D0 ∧ (strKeys D0).Perm (l.map fun p=>keyStr p.1) ∧ size D0 = l.length:=by
 obtain ⟨_,_,es,clock,h1,h2,h3⟩:=h
 unfold keysOkS at hok
 rw [Bool.and_eq_true,List.all_eq_true] at hok
 obtain ⟨o1,o2⟩:=hok
 have o1:l.length * 17 ≤ 140737488355328:=of_decide_eq_true o1
 have hlen:=h3.length
 have hm:maxLen = 9223372036854775807:=by decide
 obtain ⟨r1,r2⟩:=ents_reads hk h3 fun p hp=>Nat.le_trans (of_decide_eq_true (o2 p hp)) (by have:limit = 140737488355328:=rfl; omega)
 rw [Array.length_toList] at hlen
 refine ⟨_,⟨es,clock,h1,⟨by omega,h2,r1⟩,by omega,rfl⟩,?_,?_⟩
 ·rw [← r2]
  exact (List.Perm.map _ (sorted_perm _))
 ·show (List.foldr DataW.insert [] (es.toList.map (rg P k anyR))).length = _
  rw [(sorted_perm _).length_eq,List.length_map,Array.length_toList]
  omega
theorem callsB_keys {f g bt t:Nat} {kk:Option IntKind} {ag:Bool} {α:Type} {d:α} {enc:α → List D} {l:List (MK × α)} (hf:FOK P f)
  (hc:∀ (mb:Option Nat) (W:World),CallsIn Fence.wide 5 P f #[.map mb] W fun e w'=>e = .returned (.func (.func g) #[] #[.pointer (some ⟨W.heap.size,0,none⟩)]) ∧ w' = W.alloc (.cells #[.map mb] bt)) :
  CallsB P f [.mp LIM] [(LIM,t,[.mapc kk ag d enc l])] (.fn g [.own 1 0]) [(LIM,t,[.mapc kk ag d enc l]),(1,bt,[.mp LIM])]:=by
 refine ⟨hf,fun F w1 B args hb hr=>?_⟩
 cases hr with
 | cons _ v _ vs hv hs =>
  cases hs
  cases hv with
  | mp _ b hB =>
   refine (callsIn_wide.1 (hc (some b) w1.w)).mono ?_
   rintro e w' ⟨rfl,rfl⟩
   have hno:∀ k,D.namess k [D.mp LIM] = true → setB B 1 (.box w1.w.heap.size) k = B k:=fun k hk=>setB_ne B 1 _ k (fun e=>by subst e; exact absurd hk (by decide))
   obtain ⟨h1,h2⟩:=hb.box (t:=1) (ty:=bt) (cells:=[.mp LIM]) (vs:=[.map (some b)]) (.cons _ _ _ _ (.mp _ b hB) .nil) rfl (B':=setB B 1 (.box w1.w.heap.size)) (setB_self _ _ _) (fun k hk=>setB_ne _ _ _ _ (by have:LIM = 1000000:=rfl; omega))
    (M':=memL [(LIM,t,[.mapc kk ag d enc l])]) (fun F w vs h=>h.reenv hno) (fun k t' ds h=>by
     have h:=List.mem_singleton.1 h
     cases h
     exact ⟨List.mem_cons_self,by decide,setB_ne _ _ _ _ (by decide),fun F w vs h=>h.reenv fun k hk=>by simp [D.namess,D.names] at hk⟩)
   refine ⟨_,F,setB B 1 (.box w1.w.heap.size),rfl,.fn _ _ _ (.cons _ _ _ _ (.own 1 0 _ (setB_self _ _ _)) .nil),h1.sub fun k t' ds h=>?_⟩
   rcases List.mem_cons.1 h with h | h
   ·cases h; exact .inr List.mem_cons_self
   ·have h:=List.mem_singleton.1 h
    cases h; exact .inl ⟨rfl,rfl,rfl⟩
theorem callsB_sortedKeys {f g bt t ks:Nat} {ag:Bool} {α:Type} {d:α} {enc:α → List D} {l:List (MK × α)} (hf:FOK P f) (hk:P.underlying ks = some .string)
  (hc:∀ (bb b nn:Nat) (D0:DataW Unit) (W:World),bb < W.heap.size → W.cell? ⟨bb,0,none⟩ = some (.map (some b)) → W.ownsMap P ks anyR b nn D0 → size D0 ≤ maxLen → size D0 * 16 ≤ 140737488355328 →
   CallsIn Fence.wide 5 P f #[.func (.func g) #[] #[.pointer (some ⟨bb,0,none⟩)]] W fun e w'=>∃ (v:Value) (ss:List (List UInt8)),e = .returned v ∧ ss.Perm (strKeys D0) ∧
    w'.ownsRow W.heap.size ks 1 v ss.length ((ss.mergeSort (fun x y=>decide (x ≤ y))).map encStr) ∧ (v = .slice none 0 0 ↔ ss = []) ∧ Below W.heap.size W w')
  (hok:keysOkS l = true) :
  CallsB P f [.fn g [.own (LIM + 1) 0]] [(LIM,t,[.mapc none ag d enc l]),(LIM + 1,bt,[.mp LIM])] (.recs (α:=List UInt8) [] encS (keysS l)) [(LIM,t,[.mapc none ag d enc l]),(LIM + 1,bt,[.mp LIM])]:=by
 refine ⟨hf,fun F w1 B args hb hr=>?_⟩
 cases hr with
 | cons _ v _ vs hv hs =>
  cases hs
  cases hv with
  | fn _ _ vs hc2 =>
   cases hc2 with
   | cons _ v _ vs hv hs =>
    cases hs
    cases hv with
    | own _ _ bb hB =>
     obtain ⟨vs,hvs,_,hh,hfr,hnf⟩:=hb.box' (k:=LIM + 1) (t:=bt) (ds:=[.mp LIM]) (List.mem_cons_of_mem _ List.mem_cons_self) hB
     obtain ⟨b,hBm,_,hmap⟩:=hb.map' (k:=LIM) (t:=t) (kk:=none) (ag:=ag) (d:=d) (enc:=enc) (l:=l) List.mem_cons_self
     have hvs:vs = [.map (some b)]:=by
      cases hvs with
      | cons _ v _ vs hv hs =>
       cases hs
       cases hv with
       | mp _ b' hB'=>rw [hBm] at hB'; cases hB'; rfl
     subst hvs
     obtain ⟨D0,h1,h2,h3⟩:=map_owns hk hmap hok
     have hok2:=hok
     unfold keysOkS at hok2
     rw [Bool.and_eq_true] at hok2
     have o1:l.length * 17 ≤ 140737488355328:=of_decide_eq_true hok2.1
     have hm:maxLen = 9223372036854775807:=by decide
     refine (callsIn_wide.1 (hc bb b _ D0 w1.w (Array.getElem?_eq_some_iff.1 hh).1 (by simp [World.cell?,hh]) h1 (by omega) (by omega))).mono ?_
     rintro e w' ⟨v,ss,rfl,hp,hrow,_,hbel⟩
     obtain ⟨h4,h5⟩:=hb.callee hbel
     have hss:ss.mergeSort (fun x y=>decide (x ≤ y)) = keysS l:=mergeSort_of_perm (hp.trans h2)
     rw [hss] at hrow
     have hlen:ss.length = (keysS l).length:=by rw [← hss]; simp
     refine ⟨_,_,B,rfl,?_,h4⟩
     obtain ⟨e1,hrow⟩:=hrow
     rcases hrow with ⟨rfl,h0⟩ | ⟨gb,cap,cur,rfl,hbase,hgb,hn,hcm,hsz,htk⟩
     ·have:keysS l = []:=List.eq_nil_of_length_eq_zero (by omega)
      rw [this]
      exact .recsNil _ _ none
     ·rw [hlen]
      refine .recs _ _ (keysS l) gb 0 cap 1 (fun i=>[encStr ((keysS l)[i]?.getD [])]) rfl (fun _ _=>rfl) (fun i hi=>.cons _ _ _ _ (.str _) .nil) (fun i j hi hj=>⟨.inr ⟨by omega,(Array.getElem?_eq_some_iff.1 hgb).1⟩,?_⟩) (by omega)
      have:j = 0:=by omega
      subst this
      have hi2:i < cur.size:=by omega
      have hget:cur[i]? = some (encStr (keysS l)[i]):=by
       have:=congrArg (fun x=>x[i]?) htk
       simp only [List.getElem?_take,List.getElem?_map] at this
       rw [if_pos (by omega)] at this
       rw [← Array.getElem?_toList,this,List.getElem?_eq_getElem hi]
       rfl
      simp only [World.cell?,hgb,Nat.zero_add,Nat.mul_one,Nat.add_zero]
      rw [hget]
      simp [hi]
end
end Go.Proofs.YtaecmkldkljioaaGreat.RX
