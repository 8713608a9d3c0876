import Derived.Test.YtibgdilkodjojaaGreatDoorQRxOps
import Derived.Laws.CopyRow
import Derived.Laws.MakeOwn
import Derived.Laws.BytesString
import Derived.Lib.ConvBytes
set_option linter.all false
namespace Go.Proofs.YtibgdilkodjojaaGreatDoor.RX
open Go.RowKit
section
variable {P:Program}
theorem run_storeCells_fz (g o:Nat) (t:TypeId) (fz:Nat × Nat):∀ (vs:List Value) (i:Nat) (cur:Array Value) (w:World),w.heap[g]? = some (.cells cur t fz) → (∀ j,j < cur.size → ¬ (fz.1 ≤ j ∧ j < fz.2)) → o + i + vs.length ≤ cur.size → (∀ v ∈ vs,v.oneCell' = true) →
  (storeCells ⟨g,o,none⟩ vs i).run P w = .ok () (w.setRow g (cur.toList.take (o + i) ++ vs ++ cur.toList.drop (o + i + vs.length)).toArray)
 | [],i,cur,w,hg,_,_,_=>by
  simp only [storeCells,List.append_nil,List.length_nil,Nat.add_zero,List.take_append_drop,Array.toArray_toList]
  rw [setRow_self w g cur t fz hg]
  rfl
 | v :: rest,i,cur,w,hg,hf,hl,h1=>by
  have hi:o + i < cur.size:=by simp at hl; omega
  have hadd:(⟨g,o,none⟩:Addr).add i = ⟨g,o + i,none⟩:=by unfold Addr.add; split <;> simp_all
  have hcell:w.cell? ⟨g,o + i,none⟩ = some cur[o + i]:=by simp [World.cell?,hg,hi]
  have hfro:w.frozen? ⟨g,o + i,none⟩ = false:=by
   have:=hf _ hi
   simp only [World.frozen?,hg]
   rw [Bool.and_eq_false_iff]
   by_cases hc:fz.1 ≤ o + i
   ·right; simp; omega
   ·left; simpa using hc
  have hst:(store ((⟨g,o,none⟩:Addr).add i) v).run P w = .ok () (w.setRow g (cur.setIfInBounds (o + i) v)):=by
   rw [hadd,run_store P w _ v _ (h1 v (by simp)),hcell]
   simp [hfro,setCell_eq_setRow w g (o + i) cur t fz v hg]
  have ih:=run_storeCells_fz g o t fz rest (i + 1) (cur.setIfInBounds (o + i) v) (w.setRow g (cur.setIfInBounds (o + i) v)) (setRow_heap w g cur _ t _ hg) (by simpa using hf) (by simp at hl ⊢; omega) (fun x hx=>h1 x (by simp [hx]))
  simp only [storeCells,Sem.run_bind,hst,Result.andThen_ok,ih,setRow_setRow]
  congr 3
  have e:=list_seg_step cur.toList (o + i) v rest (by simp at hl ⊢; omega)
  simpa [Array.toList_setIfInBounds,Nat.add_assoc] using e
theorem run_firstCells_zero {size:Nat} {q:Option Addr} {w:World}:(Builtin.firstCells size 0 (.slice q 0 0)).run P w = .ok #[] w:=by
 cases q <;> simp [Builtin.firstCells,loadCells,loadCellsFrom]
theorem run_appendNone {w:World} {t t2 ty e:Nat} {i:TypeInfo} {z v0:Value} {q:Option Addr} (hv0:v0 = .slice q 0 0) (ht:P.underlying t = some (.slice e)) (hi:P.info? e = some i) (hz:i.zero = some z) (hzs:z.cells.size = i.size) (hpos:0 < i.size)
  (ht2:(∃ e2,P.underlying t2 = some (.slice e2)) ∨ P.underlying t2 = some .string)
  {xs:List Value} (hown:OwnRow w e i.size none 0 0 xs)
  {x:Value} {m:Nat} {news:List Value} (hlen:∀ w',(Builtin.lenOf x).run P w' = .ok m w') (hx:(Builtin.firstCells i.size m x).run P w = .ok news.toArray w) (hx':(Builtin.firstCells i.size m x).run P w.drew = .ok news.toArray w.drew)
  (hl:news.length = m * i.size) (h1:∀ u ∈ news,u.oneCell' = true) (hb:(0 + m) * (i.bytes + 1) ≤ 140737488355328) :
  ∃ p' cap' w' v',(Builtin.append_ #[t,t2] ty #[v0,x]).run P w = .ok v' w' ∧ IsRow v' p' (0 + m) cap' ∧ OwnRow w' e i.size p' (0 + m) cap' (xs ++ news) ∧ ((p' = none ∧ w.grownBy w' none) ∨ (p' = some w.heap.size ∧ w.grownBy w' none)):=by
 subst hv0
 have hb1:(0 + m) * i.bytes ≤ 140737488355328:=Nat.le_trans (Nat.mul_le_mul_left _ (Nat.le_succ _)) hb
 have hb2:0 + m ≤ 140737488355328:=Nat.le_trans (Nat.le_mul_of_pos_right _ (Nat.succ_pos _)) hb
 have hmax:0 + m ≤ maxLen:=by simp only [maxLen]; omega
 have hxl:(xs ++ news).length = (0 + m) * i.size:=by rw [List.length_append,hown.1,hl,Nat.add_mul]
 have grown:∀ old,old < 0 + m → OwnRow (w.drew.alloc (.cells (xs.toArray ++ news.toArray ++ Builtin.zeroCells z.cells (grownCap w (0 + m) old e - (0 + m))) e)) e i.size (some w.heap.size) (0 + m) (grownCap w (0 + m) old e) (xs ++ news) ∧
   w.grownBy (w.drew.alloc (.cells (xs.toArray ++ news.toArray ++ Builtin.zeroCells z.cells (grownCap w (0 + m) old e - (0 + m))) e)) none:=by
  intro old ho
  have hge:=grownCap_ge w (0 + m) old e
  have hcm:grownCap w (0 + m) old e ≤ maxLen:=grownCap_le_maxLen w (0 + m) old e hmax
  refine ⟨⟨hxl,.inr ⟨w.heap.size,_,_,rfl,heap_alloc_new w.drew _,by simp,hge,hcm,?_,?_⟩⟩,⟨rfl,rfl,rfl,by simp,fun k hk _=>heap_alloc_old w.drew _ (by simpa using hk)⟩⟩
  ·simp only [Array.size_append,List.size_toArray,size_zeroCells,hzs,hown.1,hl,← Nat.add_mul]
   congr 1
   omega
  ·simp only [Array.toList_append,List.append_assoc]
   rw [← List.append_assoc,← hxl]
   exact List.take_left
 have hx0:xs = []:=List.eq_nil_of_length_eq_zero (by simpa using hown.1)
 subst hx0
 by_cases hm:m = 0
 ·subst hm
  have hn:news = []:=List.eq_nil_of_length_eq_zero (by simpa using hl)
  subst hn
  refine ⟨none,0,w,.slice q 0 0,?_,.inr ⟨rfl,rfl,rfl,q,rfl⟩,⟨by simp,.inl ⟨rfl,rfl,rfl⟩⟩,.inl ⟨rfl,⟨rfl,rfl,rfl,Nat.le_refl _,fun _ _ _=>rfl⟩⟩⟩
  rcases ht2 with ⟨e2,ht2⟩ | ht2 <;> cases q <;> simp [Builtin.append_,run_underlying ht,run_underlying ht2,sizeOf,typeInfo,hi,hlen,hx,storeCells]
 ·have hgr:=grown 0 (by omega)
  refine ⟨some w.heap.size,_,_,rowVal (some w.heap.size) (0 + m) (grownCap w (0 + m) 0 e),?_,.inl rfl,hgr.1,.inr ⟨rfl,hgr.2⟩⟩
  have h48:¬ (281474976710656 < Builtin.nextslicecap m 0 * i.bytes):=by
   rw [nextslicecap_zero (by omega)]
   simp only [Nat.zero_add] at hb1; omega
  have h63:¬ (9223372036854775807 < (m:Int)):=by omega
  rcases ht2 with ⟨e2,ht2⟩ | ht2 <;> cases q <;> simp [rowVal,Builtin.append_,run_underlying ht,run_underlying ht2,sizeOf,typeInfo,zeroValue,hi,hz,hlen,hm,h48,h63,Question.forced,run_firstCells_none,run_firstCells_zero,hx',newRow,grownCap]
theorem run_append2 {w:World} {t t2 ty e:Nat} {i:TypeInfo} {z v0:Value} {p:Option Nat} {n cap:Nat} (hv0:IsRow v0 p n cap) (ht:P.underlying t = some (.slice e)) (hi:P.info? e = some i) (hz:i.zero = some z) (hzs:z.cells.size = i.size) (hpos:0 < i.size)
  (ht2:(∃ e2,P.underlying t2 = some (.slice e2)) ∨ P.underlying t2 = some .string)
  {xs:List Value} (hown:OwnRow w e i.size p n cap xs)
  {x:Value} {m:Nat} {news:List Value} (hlen:∀ w',(Builtin.lenOf x).run P w' = .ok m w') (hx:(Builtin.firstCells i.size m x).run P w = .ok news.toArray w) (hx':(Builtin.firstCells i.size m x).run P w.drew = .ok news.toArray w.drew)
  (hl:news.length = m * i.size) (h1:∀ u ∈ news,u.oneCell' = true) (hb:(n + m) * (i.bytes + 1) ≤ 140737488355328) :
  ∃ p' cap' w' v',(Builtin.append_ #[t,t2] ty #[v0,x]).run P w = .ok v' w' ∧ IsRow v' p' (n + m) cap' ∧ OwnRow w' e i.size p' (n + m) cap' (xs ++ news) ∧ ((p' = p ∧ w.grownBy w' p) ∨ (p' = some w.heap.size ∧ w.grownBy w' none)):=by
 rcases hown.2 with ⟨rfl,rfl,rfl⟩ | ⟨g,cur,fz,rfl,hg,hfz,hnc,hcm,hcs,htake⟩
 ·have hq:∃ q,v0 = .slice q 0 0:=by
   rcases hv0 with rfl | ⟨_,_,_,q,rfl⟩
   ·exact ⟨none,rfl⟩
   ·exact ⟨q,rfl⟩
  obtain ⟨q,hq⟩:=hq
  exact run_appendNone hq ht hi hz hzs hpos ht2 hown hlen hx hx' hl h1 hb
 have hv1:v0 = rowVal (some g) n cap:=by
  rcases hv0 with h | ⟨h,_⟩
  ·exact h
  ·cases h
 subst hv1
 have hb1:(n + m) * i.bytes ≤ 140737488355328:=Nat.le_trans (Nat.mul_le_mul_left _ (Nat.le_succ _)) hb
 have hb2:n + m ≤ 140737488355328:=Nat.le_trans (Nat.le_mul_of_pos_right _ (Nat.succ_pos _)) hb
 have hmax:n + m ≤ maxLen:=by simp only [maxLen]; omega
 have hxl:(xs ++ news).length = (n + m) * i.size:=by rw [List.length_append,hown.1,hl,Nat.add_mul]
 have grown:∀ old,old < n + m → OwnRow (w.drew.alloc (.cells (xs.toArray ++ news.toArray ++ Builtin.zeroCells z.cells (grownCap w (n + m) old e - (n + m))) e)) e i.size (some w.heap.size) (n + m) (grownCap w (n + m) old e) (xs ++ news) ∧
   w.grownBy (w.drew.alloc (.cells (xs.toArray ++ news.toArray ++ Builtin.zeroCells z.cells (grownCap w (n + m) old e - (n + m))) e)) none:=by
  intro old ho
  have hge:=grownCap_ge w (n + m) old e
  have hcm:grownCap w (n + m) old e ≤ maxLen:=grownCap_le_maxLen w (n + m) old e hmax
  refine ⟨⟨hxl,.inr ⟨w.heap.size,_,_,rfl,heap_alloc_new w.drew _,by simp,hge,hcm,?_,?_⟩⟩,⟨rfl,rfl,rfl,by simp,fun k hk _=>heap_alloc_old w.drew _ (by simpa using hk)⟩⟩
  ·simp only [Array.size_append,List.size_toArray,size_zeroCells,hzs,hown.1,hl,← Nat.add_mul]
   congr 1
   omega
  ·simp only [Array.toList_append,List.append_assoc]
   rw [← List.append_assoc,← hxl]
   exact List.take_left
 by_cases hroom:n + m ≤ cap
 ·have hfit:n * i.size + news.length ≤ cur.size:=by rw [hl,hcs,← Nat.add_mul]; exact Nat.mul_le_mul_right _ hroom
  have hst:=run_storeCells_fz (P:=P) g (n * i.size) e fz news 0 cur w hg hfz (by simpa using hfit) h1
  simp only [Nat.add_zero] at hst
  refine ⟨some g,cap,w.setRow g (cur.toList.take (n * i.size) ++ news ++ cur.toList.drop (n * i.size + news.length)).toArray,_,?_,.inl rfl,⟨hxl,.inr ⟨g,_,fz,rfl,setRow_heap w g cur _ e fz hg,?_,hroom,hcm,?_,?_⟩⟩,.inl ⟨rfl,⟨rfl,rfl,rfl,by simp,fun k hk hne=>setRow_other w g k _ (fun h=>hne (by rw [h]))⟩⟩⟩
  ·rcases ht2 with ⟨e2,ht2⟩ | ht2 <;> simp [rowVal,Builtin.append_,run_underlying ht,run_underlying ht2,sizeOf,typeInfo,hi,hlen,hroom,hx,Addr.add_lit,hst]
  ·intro j hj
   refine hfz j ?_
   simp at hj
   omega
  ·simp only [List.size_toArray,List.length_append,List.length_take,List.length_drop,Array.length_toList]
   omega
  ·rw [htake,← hxl]
   exact List.take_left
 ·have hgr:=grown cap (by omega)
  have holds:∀ j u,xs[j]? = some u → w.cell? ((⟨g,0,none⟩:Addr).add j) = some u:=fun j u hu=>by
   rw [add_eq]; simpa using hown.cells hu
  have hfo:=run_firstCells_some (P:=P) w.drew i.size n ⟨g,0,none⟩ n cap xs hown.1 holds
  have h48:¬ (281474976710656 < Builtin.nextslicecap (n + m) cap * i.bytes):=by
   have:=growslice_fits (need:=n + m) (old:=cap) (by omega) hb1; omega
  have h63:¬ (9223372036854775807 < ((n:Int) + (m:Int))):=by omega
  refine ⟨some w.heap.size,_,_,rowVal (some w.heap.size) (n + m) (grownCap w (n + m) cap e),?_,.inl rfl,hgr.1,.inr ⟨rfl,hgr.2⟩⟩
  rcases ht2 with ⟨e2,ht2⟩ | ht2 <;> simp [rowVal,Builtin.append_,run_underlying ht,run_underlying ht2,sizeOf,typeInfo,zeroValue,hi,hz,hlen,hroom,h48,h63,Question.forced,hfo,hx',newRow,grownCap]
  all_goals
   congr 2
   apply Array.ext'
   simp [List.append_assoc]
theorem zeros_list {z:Value} {n size:Nat} (hz:z.cells.toList.length = size) (hpos:0 < size):(madeCells z.cells (n * size)).toList = (List.replicate n z.cells.toList).flatten:=by
 apply List.ext_getElem?
 intro j
 have hzs:z.cells.size = size:=by rw [← hz]; simp
 have hl:((List.replicate n z.cells.toList).flatten).length = n * size:=by simp [hzs]
 by_cases hj:j < n * size
 ·have hj2:j / size < n:=(Nat.div_lt_iff_lt_mul hpos).2 hj
  have hmod:j % size < size:=Nat.mod_lt _ hpos
  have h1:(madeCells z.cells (n * size)).toList[j]? = some (z.cells[j % size]'(by rw [hzs]; exact hmod)):=by
   unfold madeCells
   rw [Array.getElem?_toList]
   simp only [Array.getElem?_map,Array.getElem?_range,hj,if_true,Option.map_some,hzs]
   rw [getElem!_pos z.cells (j % size) (by rw [hzs]; exact hmod)]
  rw [h1]
  have key:∀ (k m:Nat),k < m → ∀ r,r < size → ((List.replicate m z.cells.toList).flatten)[k * size + r]? = z.cells.toList[r]?:=by
   intro k
   induction k with
   | zero =>
    intro m hm r hr
    cases m with
    | zero=>omega
    | succ m =>
     rw [List.replicate_succ,List.flatten_cons,List.getElem?_append_left (by rw [hz]; omega)]
     simp
   | succ k ih =>
    intro m hm r hr
    cases m with
    | zero=>omega
    | succ m =>
     rw [List.replicate_succ,List.flatten_cons,List.getElem?_append_right (by rw [hz,Nat.add_mul]; omega),hz]
     rw [show (k + 1) * size + r - size = k * size + r by rw [Nat.add_mul]; omega]
     exact ih m (by omega) r hr
  have hd:j = j / size * size + j % size:=by rw [Nat.mul_comm]; exact (Nat.div_add_mod j size).symm
  have h2:=key _ _ hj2 _ hmod
  rw [← hd] at h2
  rw [h2]
  simp [hzs,hmod]
 ·rw [List.getElem?_eq_none (by simp [madeCells]; omega),List.getElem?_eq_none (by omega)]
end
end Go.Proofs.YtibgdilkodjojaaGreatDoor.RX
