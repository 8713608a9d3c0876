import Derived.Test.YtibgdilkodjojaaGreatDoorQRxShelf
set_option linter.all false
namespace Go.Proofs.YtibgdilkodjojaaGreatDoor.RX
open Go.RowKit Go.Sort
section
variable {P:Program} {F:Fz} {w1:Pt P} {B:Env}
theorem Base.short {k t g n cap:Nat} {α:Type} {d:α} {enc:α → List D} {l l1:List α} {w:World} (hb:Base F w1 B F (memL [(k,t,[.rowc false d enc l])]) w)
  (hB:B k = some (.row (some g) n cap)) (hp:l1 <+: l) :
  Base F w1 (setB B 1 (.row (some g) l1.length cap)) F (memL [(1,t,[.rowc false d enc l1])]) w:=by
 have hm:memL [(k,t,[D.rowc false d enc l])] k t [.rowc false d enc l]:=List.mem_cons_self
 obtain ⟨p,n0,cap0,hB0,hn0,hpos,hge,xs,hxs,hown0,hfz⟩:=hb.row' hm
 rw [hB] at hB0; cases hB0
 have hfr:=hb.new _ _ _ g hm (blkOf_row hB)
 have hone:∀ j t' ds,memL [(1,t,[D.rowc false d enc l1])] j t' ds → j = 1 ∧ t' = t ∧ ds = [.rowc false d enc l1]:=by
  intro j t' ds h
  have:=List.mem_singleton.1 h
  cases this; exact ⟨rfl,rfl,rfl⟩
 have hset:setB B 1 (.row (some g) l1.length cap) 1 = some (.row (some g) l1.length cap):=setB_self _ _ _
 have hle:=hp.length_le
 obtain ⟨ys,rfl⟩:=hp
 refine ⟨fun j t' ds h=>?_,fun j t' ds b h hbk=>?_,fun i j b hi hj _ _=>?_,hb.frz,hb.more,hb.grow,hb.below,fun j b hj=>?_⟩
 ·obtain ⟨rfl,rfl,rfl⟩:=hone _ _ _ h
  rcases hown0.2 with ⟨h1,_⟩ | ⟨g',cur,fz,h1,hh,hfz',hnc,hcm,hsz,htk⟩
  ·cases h1
  cases h1
  have hlen:=hown0.1
  have hmul:l1.length * (enc d).length ≤ n * (enc d).length:=Nat.mul_le_mul_right _ (by omega)
  have hl1:(l1.flatMap enc).length = l1.length * (enc d).length:=flatMap_length (fun x=>(hge x).1) l1
  refine .row false d enc l1 (some g) l1.length cap hset ⟨rfl,hpos,hge,xs.take (l1.length * (enc d).length),?_,⟨by rw [List.length_take]; omega,.inr ⟨g,cur,fz,rfl,hh,hfz',by omega,hcm,hsz,?_⟩⟩,fun b hb' j'=>?_⟩
  ·have:=hxs.take (l1.length * (enc d).length)
   rwa [List.flatMap_append,List.take_left' hl1] at this
  ·rw [← htk,List.take_take,Nat.min_eq_left hmul]
  ·cases hb'
   rw [hfz g rfl j']
   simp
 ·obtain ⟨rfl,rfl,rfl⟩:=hone _ _ _ h
  rw [blkOf_row hset] at hbk
  cases hbk
  exact hfr
 ·obtain ⟨_,_,h1⟩:=hi
  obtain ⟨_,_,h2⟩:=hj
  rw [(hone _ _ _ h1).1,(hone _ _ _ h2).1]
 ·have:=w1.low j (by rw [hj]; simp)
  rw [setB_ne _ _ _ _ (by have:LIM = 1000000:=rfl; omega)]
  exact hb.env j b hj
theorem callsB_compactO {f et:Nat} {l:List (List UInt8)} (hf:FOK P f)
  (hc:∀ (blk off cap:Nat) (zs:List (List UInt8)) (w:World),Holds encStr w blk off zs.toArray → zs.length ≤ 9223372036854775807 → zs.length ≤ cap →
   Calls P f #[.slice (some ⟨blk,off,none⟩) zs.length cap] w fun e w'=>e = .returned (.slice (some ⟨blk,off,none⟩) (Lib.compact zs).length cap) ∧ ∃ q,w' = putRow encStr (Sort.ahead w q) blk off (Lib.compact zs ++ List.replicate (zs.length - (Lib.compact zs).length) []).toArray)
  (hn:∀ (a:Option Addr) (cap:Nat) (w:World),Calls P f #[.slice a 0 cap] w fun e w'=>e = .returned (.slice a 0 cap) ∧ w' = w)
  (hle:(Lib.compact l).length ≤ l.length)
  (hl:decide (l.length * 17 ≤ limit) = true):CallsB P f [.row LIM] [(LIM,et,[.rowc false (α:=List UInt8) [] encS l])] (.row 1) [(1,et,[.rowc false (α:=List UInt8) [] encS (Lib.compact l)])]:=by
 refine ⟨hf,fun F w1 B args hb hr=>?_⟩
 have hlim:l.length * 17 ≤ 140737488355328:=of_decide_eq_true hl
 obtain ⟨p,n,cap,v,hB,hv,rfl⟩:=row_arg hr
 have hm:memL [(LIM,et,[D.rowc false (α:=List UInt8) [] encS l])] LIM et [.rowc false (α:=List UInt8) [] encS l]:=List.mem_cons_self
 obtain ⟨p',n',cap',hB',hn0,hpos,hge,xs,hxs,hown,hfz⟩:=hb.row' hm
 rw [hB] at hB'; cases hB'
 have hx:=strs_vals hxs
 subst hx
 cases p with
 | none =>
  have h0:l = [] ∧ n = 0 ∧ cap = 0:=by
   rcases hown.2 with ⟨_,h1,h2⟩ | ⟨_,_,_,h,_⟩
   ·exact ⟨List.eq_nil_of_length_eq_zero (by omega),h1,h2⟩
   ·cases h
  obtain ⟨rfl,rfl,rfl⟩:=h0
  obtain ⟨q,rfl⟩:=isRow_none hv
  refine (hn q 0 w1.w).mono ?_
  rintro e w' ⟨rfl,rfl⟩
  have hM:∀ (B':Env) (k t':Nat) (ds:List D),memL [] k t' ds → memL [] k t' ds ∧ k ≠ 1 ∧ B' k = B k ∧ ∀ (F:Fz) (w:World) (vs:List Value),RepL F w B ds vs → RepL F w B' ds vs:=fun B' k t' ds h=>by simp [memL] at h
  have hsub:∀ k t' ds,memL [(1,et,[D.rowc false (α:=List UInt8) [] encS []])] k t' ds → memBox 1 et [.rowc false (α:=List UInt8) [] encS []] (memL []) k t' ds:=by
   intro k t' ds h
   cases List.mem_singleton.1 h
   exact .inl ⟨rfl,rfl,rfl⟩
  have hb0:Base F w1 B F (memL []) w1.w:=hb.sub fun _ _ _ h=>by simp [memL] at h
  have hb2:=hb0.row (t:=1) (e:=et) (m:=false) (d:=([]:List UInt8)) (enc:=encS) (l:=[]) (p:=none) (p0:=none) (n:=0) (cap:=0) (pre:=0) (xs:=[]) (w':=w1.w) rfl .nil ⟨hpos,hge⟩
   ⟨by simp,.inl ⟨rfl,rfl,rfl⟩⟩ (.inl ⟨rfl,⟨rfl,rfl,rfl,Nat.le_refl _,fun _ _ _=>rfl⟩,fun b h=>by cases h⟩) (by simp) (fun b h=>by cases h) (B':=setB B 1 (.row none 0 0)) (setB_self _ _ _) (fun k hk=>setB_ne _ _ _ _ (by have:LIM = 1000000:=rfl; omega)) (M':=memL []) (hM _) (fun b h=>by cases h)
  exact ⟨_,_,_,rfl,.rowNil 1 q (setB_self _ _ _),hb2.1.sub hsub⟩
 | some g =>
  obtain ⟨hH,hg,rfl,hnc,hcm,cur,fz,hh,hsz,htk,hfz'⟩:=strs_holds hown
  obtain rfl:=isRow_some hv
  refine (hc g 0 cap l w1.w hH (by omega) hnc).mono ?_
  rintro e w' ⟨rfl,q,rfl⟩
  let ts:=Lib.compact l ++ List.replicate (l.length - (Lib.compact l).length) []
  have hlen:ts.length = l.length:=by simp [ts]; omega
  have hb2:Base F w1 B F (memL [(LIM,et,[.rowc false (α:=List UInt8) [] encS ts])]) (grow (putRow encStr (Sort.ahead w1.w q) g 0 ts.toArray) #[]) :=
   hb.turned hB (grownBy_sorted _) ⟨_,strs_rep ts,own_sorted ts hh hlen.symm hnc hcm hsz hfz'⟩ hlen
  rw [grow_empty] at hb2
  have hb3:=hb2.short hB (List.prefix_append (Lib.compact l) _)
  exact ⟨_,F,_,rfl,.row 1 (some g) _ cap (setB_self _ _ _),hb3⟩
end
end Go.Proofs.YtibgdilkodjojaaGreatDoor.RX
