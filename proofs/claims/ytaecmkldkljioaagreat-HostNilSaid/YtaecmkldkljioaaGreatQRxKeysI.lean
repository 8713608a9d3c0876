import Derived.Test.YtaecmkldkljioaaGreatQRxKeys
import Derived.Shelf.SlIterI.Sorted
set_option linter.all false
namespace Go.Proofs.YtaecmkldkljioaaGreat.RX
open Go.RowKit Go.Sort Go.Maps
open Go.WideElems (Fit rd rg)
open Go.ChangeShapes Go.WideShapes
def keyInt:MK → Int | .inl _=>0 | .inr n=>n
def encI:Int → List D:=fun x=>[.val (.int .i64 x)]
def keysI {α:Type} (l:List (MK × α)):List Int:=(l.map fun p=>keyInt p.1).mergeSort fun x y=>decide (x ≤ y)
def keysOkI {α:Type} (l:List (MK × α)):Bool:=decide (l.length * 17 ≤ limit) && l.all fun p=>decide (-9223372036854775808 ≤ keyInt p.1 ∧ keyInt p.1 ≤ 9223372036854775807)
section
variable {P:Program}
theorem ents_readsI {F:Fz} {w:World} {ag:Bool} {α:Type} {enc:α → List D} {k:TypeId} (hk:P.underlying k = some (.int .i64)):∀ {l:List (MK × α)} {es:List MapEntry},EntsOK F w (some .i64) ag enc l es → (∀ p ∈ l,-9223372036854775808 ≤ keyInt p.1 ∧ keyInt p.1 ≤ 9223372036854775807) →
  (∀ x ∈ es,∃ y,rd P k anyR x = some y) ∧ (es.map (rg P k anyR)).map (fun p=>Go.intOf p.1) = l.map fun p=>keyInt p.1
 | _,_,.nil,_=>⟨fun x hx=>(by cases hx),rfl⟩
 | _,_,.cons x v l e es hke hx hv hr,hl=>by
  obtain ⟨h1,h2⟩:=ents_readsI hk hr fun p hp=>hl p (List.mem_cons_of_mem _ hp)
  have hs:∃ n,x = .inr n:=by
   cases x with
   | inl s=>cases hx
   | inr n=>exact ⟨n,rfl⟩
  obtain ⟨n,rfl⟩:=hs
  have hlen:-9223372036854775808 ≤ n ∧ n ≤ 9223372036854775807:=hl _ List.mem_cons_self
  have hwf:(Lit.int .i64 n).wf = true:=by
   simp only [Lit.wf]
   simp [IntKind.min,IntKind.max,IntKind.signed,IntKind.bits]
   omega
  have hrd:rd P k anyR e = some (.int .i64 n,.nil):=by
   unfold rd keyOf
   rw [hke]
   simp [MK.val,mapKey,hk,anyR,hwf]
  refine ⟨fun y hy=>?_,?_⟩
  ·rcases List.mem_cons.1 hy with rfl | hy
   ·exact ⟨_,hrd⟩
   ·exact h1 y hy
  ·rw [List.map_cons,List.map_cons,List.map_cons,h2]
   have:rg P k anyR e = (.int .i64 n,.nil):=by unfold rg; rw [hrd]; rfl
   rw [this]; rfl
theorem map_ownsI {F:Fz} {w:World} {b:Nat} {ag:Bool} {α:Type} {enc:α → List D} {l:List (MK × α)} {k:TypeId} (hk:P.underlying k = some (.int .i64)) (h:MapOK F w b (some .i64) ag enc l) (hok:keysOkI l = true) :
  ∃ D0:DataW Unit,w.ownsMap P k anyR b l.length D0 ∧ (intKeys D0).Perm (l.map fun p=>keyInt p.1) ∧ size D0 = l.length:=by
 obtain ⟨_,_,es,clock,h1,h2,h3⟩:=h
 unfold keysOkI at hok
 rw [Bool.and_eq_true,List.all_eq_true] at hok
 obtain ⟨o1,o2⟩:=hok
 have o1:l.length * 17 ≤ 140737488355328:=of_decide_eq_true o1
 have hlen:=h3.length
 obtain ⟨r1,r2⟩:=ents_readsI hk h3 fun p hp=>of_decide_eq_true (o2 p hp)
 rw [Array.length_toList] at hlen
 have hm:maxLen = 9223372036854775807:=by decide
 refine ⟨_,⟨es,clock,h1,⟨by omega,h2,r1⟩,by omega,rfl⟩,?_,?_⟩
 ·rw [← r2]
  exact (List.Perm.map _ (sorted_perm _))
 ·show (List.foldr DataW.insert [] (es.toList.map (rg P k anyR))).length = _
  rw [(sorted_perm _).length_eq,List.length_map,Array.length_toList]
  omega
theorem callsB_sortedKeysI {f g bt t ks:Nat} {ag:Bool} {α:Type} {d:α} {enc:α → List D} {l:List (MK × α)} (hf:FOK P f) (hk:P.underlying ks = some (.int .i64))
  (hc:∀ (bb b nn:Nat) (D0:DataW Unit) (W:World),bb < W.heap.size → W.cell? ⟨bb,0,none⟩ = some (.map (some b)) → W.ownsMap P ks anyR b nn D0 → size D0 ≤ maxLen → size D0 * 8 ≤ 140737488355328 →
   CallsIn Fence.wide 5 P f #[.func (.func g) #[] #[.pointer (some ⟨bb,0,none⟩)]] W fun e w'=>∃ (v:Value) (ss:List Int),e = .returned v ∧ ss.Perm (intKeys D0) ∧
    w'.ownsRow W.heap.size ks 1 v ss.length ((ss.mergeSort (fun x y=>decide (x ≤ y))).map encZ) ∧ (v = .slice none 0 0 ↔ ss = []) ∧ Below W.heap.size W w')
  (hok:keysOkI l = true) :
  CallsB P f [.fn g [.own (LIM + 1) 0]] [(LIM,t,[.mapc (some .i64) ag d enc l]),(LIM + 1,bt,[.mp LIM])] (.recs (α:=Int) 0 encI (keysI l)) [(LIM,t,[.mapc (some .i64) ag d enc l]),(LIM + 1,bt,[.mp LIM])]:=by
 refine ⟨hf,fun F w1 B args hb hr=>?_⟩
 cases hr with
 | cons _ v _ vs hv hs =>
  cases hs
  cases hv with
  | fn _ _ vs hc2 =>
   cases hc2 with
   | cons _ v _ vs hv hs =>
    cases hs
    cases hv with
    | own _ _ bb hB =>
     obtain ⟨vs,hvs,_,hh,hfr,hnf⟩:=hb.box' (k:=LIM + 1) (t:=bt) (ds:=[.mp LIM]) (List.mem_cons_of_mem _ List.mem_cons_self) hB
     obtain ⟨b,hBm,_,hmap⟩:=hb.map' (k:=LIM) (t:=t) (kk:=some .i64) (ag:=ag) (d:=d) (enc:=enc) (l:=l) List.mem_cons_self
     have hvs:vs = [.map (some b)]:=by
      cases hvs with
      | cons _ v _ vs hv hs =>
       cases hs
       cases hv with
       | mp _ b' hB'=>rw [hBm] at hB'; cases hB'; rfl
     subst hvs
     obtain ⟨D0,h1,h2,h3⟩:=map_ownsI hk hmap hok
     have hok2:=hok
     unfold keysOkI at hok2
     rw [Bool.and_eq_true] at hok2
     have o1:l.length * 17 ≤ 140737488355328:=of_decide_eq_true hok2.1
     have hm:maxLen = 9223372036854775807:=by decide
     refine (callsIn_wide.1 (hc bb b _ D0 w1.w (Array.getElem?_eq_some_iff.1 hh).1 (by simp [World.cell?,hh]) h1 (by omega) (by omega))).mono ?_
     rintro e w' ⟨v,ss,rfl,hp,hrow,_,hbel⟩
     obtain ⟨h4,h5⟩:=hb.callee hbel
     have hss:ss.mergeSort (fun x y=>decide (x ≤ y)) = keysI l:=mergeSort_of_perm_i (hp.trans h2)
     rw [hss] at hrow
     have hlen:ss.length = (keysI l).length:=by rw [← hss]; simp
     refine ⟨_,_,B,rfl,?_,h4⟩
     obtain ⟨e1,hrow⟩:=hrow
     rcases hrow with ⟨rfl,h0⟩ | ⟨gb,cap,cur,rfl,hbase,hgb,hn,hcm,hsz,htk⟩
     ·have:keysI l = []:=List.eq_nil_of_length_eq_zero (by omega)
      rw [this]
      exact .recsNil _ _ none
     ·rw [hlen]
      refine .recs _ _ (keysI l) gb 0 cap 1 (fun i=>[encZ ((keysI l)[i]?.getD 0)]) rfl (fun _ _=>rfl) (fun i hi=>.cons _ _ _ _ (.val _ rfl) .nil) (fun i j hi hj=>⟨.inr ⟨by omega,(Array.getElem?_eq_some_iff.1 hgb).1⟩,?_⟩) (by omega)
      have:j = 0:=by omega
      subst this
      have hi2:i < cur.size:=by omega
      have hget:cur[i]? = some (encZ (keysI l)[i]):=by
       have:=congrArg (fun x=>x[i]?) htk
       simp only [List.getElem?_take,List.getElem?_map] at this
       rw [if_pos (by omega)] at this
       rw [← Array.getElem?_toList,this,List.getElem?_eq_getElem hi]
       rfl
      simp only [World.cell?,hgb,Nat.zero_add,Nat.mul_one,Nat.add_zero]
      rw [hget]
      simp [hi]
end
end Go.Proofs.YtaecmkldkljioaaGreat.RX
