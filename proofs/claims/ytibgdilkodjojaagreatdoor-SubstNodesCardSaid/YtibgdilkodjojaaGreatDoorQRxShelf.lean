import Derived.Test.YtibgdilkodjojaaGreatDoorQRxGen
import Derived.Sort.OwnSorted
import Derived.Shelf.Vars
import Derived.Shelf.Slices.CompactS
import Derived.Shelf.Spec.SlicesGrow
set_option linter.all false
namespace Go.Proofs.YtibgdilkodjojaaGreatDoor.RX
open Go.RowKit Go.Sort
def encS:List UInt8 → List D:=fun x=>[.str x]
def strSort (l:List (List UInt8)):List (List UInt8):=l.mergeSort fun x y=>decide (x ≤ y)
section
variable {P:Program} {F:Fz} {w1:Pt P} {B:Env}
theorem strs_vals {w:World}:∀ {l:List (List UInt8)} {xs:List Value},RepL F w NB (l.flatMap encS) xs → xs = l.map encStr
 | [],_,h=>by cases h; rfl
 | x :: l,_,h=>by
  simp only [List.flatMap_cons,encS,List.singleton_append] at h
  cases h with
  | cons _ v _ vs hv hs =>
   cases hv
   rw [strs_vals hs]; rfl
theorem strs_rep {w:World} {B:Env}:∀ l:List (List UInt8),RepL F w B (l.flatMap encS) (l.map encStr)
 | []=>.nil
 | x :: l=>by
  simp only [List.flatMap_cons,encS,List.singleton_append,List.map_cons]
  exact .cons _ _ _ _ (.str x) (strs_rep l)
theorem Rep.head {F:Fz} {w:World} {B:Env} {α:Type} {d:α} {enc:α → List D} {l l1:List α} {p:Option Nat} {n cap:Nat} (h:Rep F w B (.recs d enc l) (rowVal p n cap)) (hp:l1 <+: l) (hn:n = l.length):Rep F w B (.recs d enc l1) (.slice (p.map fun b=>⟨b,0,none⟩) l1.length cap):=by
 generalize hv:rowVal p n cap = v at h
 unfold rowVal at hv
 cases h with
 | recsNil _ _ q =>
  have:l1 = []:=List.prefix_nil.1 hp
  subst this
  injection hv with e1 e2 e3
  rw [e1,e3]
  exact .recsNil d enc _
 | recs _ _ _ g off cap size vs hz h1 h2 h3 hc =>
  have hle:=hp.length_le
  obtain ⟨ys,rfl⟩:=hp
  injection hv with e1 e2 e3
  rw [e1,e3]
  refine .recs d enc l1 g off cap size vs hz (fun i hi=>h1 i (by omega)) (fun i hi=>?_) (fun i j hi hj=>h3 i j (by omega) hj) (by omega)
  have:=h2 i (by omega)
  rwa [List.getElem?_append_left hi] at this
theorem Base.turned {k t g n cap:Nat} {α:Type} {d:α} {enc:α → List D} {l l':List α} {w':World} (hb:Base F w1 B F (memL [(k,t,[.rowc false d enc l])]) w1.w)
  (hB:B k = some (.row (some g) n cap)) (hgr:w1.w.grownBy w' (some g)) (hown:∃ xs,RepL F w' NB (l'.flatMap enc) xs ∧ OwnRow w' t (enc d).length (some g) n cap xs) (hl:l'.length = l.length) :
  Base F w1 B F (memL [(k,t,[.rowc false d enc l'])]) w':=by
 have hm:memL [(k,t,[D.rowc false d enc l])] k t [.rowc false d enc l]:=List.mem_cons_self
 obtain ⟨p,n0,cap0,hB0,hn0,hpos,hge,xs,hxs,hown0,hfz⟩:=hb.row' hm
 rw [hB] at hB0; cases hB0
 have hnf:∀ j,¬ F g j:=fun j hj=>by have:=(hfz g rfl j).1 hj; simp at this
 have hfr:=hb.new _ _ _ g hm (blkOf_row hB)
 have hone:∀ j t' ds,memL [(k,t,[D.rowc false d enc l'])] j t' ds → j = k ∧ t' = t ∧ ds = [.rowc false d enc l']:=by
  intro j t' ds h
  have:=List.mem_singleton.1 h
  cases this; exact ⟨rfl,rfl,rfl⟩
 refine ⟨fun j t' ds h=>?_,fun j t' ds b h hbk=>?_,fun i j b hi hj _ _=>?_,fun g' j hF=>Nat.lt_of_lt_of_le (hb.frz g' j hF) hgr.size,hb.more,⟨fun _ _ h=>h,fun g' j hF=>?_⟩,⟨hgr.os,hgr.tape,hgr.output,hgr.size,fun j hj hno=>?_⟩,hb.env⟩
 ·obtain ⟨rfl,rfl,rfl⟩:=hone _ _ _ h
  obtain ⟨xs',h1,h2⟩:=hown
  exact .row false d enc l' (some g) n cap hB ⟨by rw [hl]; exact hn0,hpos,hge,xs',h1,h2,hfz⟩
 ·obtain ⟨rfl,rfl,rfl⟩:=hone _ _ _ h
  exact hb.new _ _ _ b hm hbk
 ·obtain ⟨_,_,h1⟩:=hi
  obtain ⟨_,_,h2⟩:=hj
  rw [(hone _ _ _ h1).1,(hone _ _ _ h2).1]
 ·have hne:g' ≠ g:=fun e=>by subst e; exact hnf j hF
  exact World.cell?_of_block (hgr.block g' (hb.frz g' j hF) (fun e=>hne (Option.some.inj e)))
 ·refine hgr.block j hj fun e=>?_
  cases e
  rcases hfr with h | h
  ·exact absurd hj (Nat.not_lt.2 h)
  ·exact hno h
theorem row_arg {w:World} {args:List Value} {k:Nat} (hr:RepL F w B [.row k] args):∃ p n cap v,B k = some (.row p n cap) ∧ IsRow v p n cap ∧ args = [v]:=by
 cases hr with
 | cons _ v _ vs h hs =>
  cases hs
  cases h with
  | row _ p n cap h=>exact ⟨p,n,cap,_,h,.inl rfl,rfl⟩
  | rowNil _ q h=>exact ⟨none,0,0,_,h,.inr ⟨rfl,rfl,rfl,q,rfl⟩,rfl⟩
theorem isRow_none {v:Value} (h:IsRow v none 0 0):∃ q,v = .slice q 0 0:=by
 rcases h with rfl | ⟨_,_,_,q,rfl⟩
 ·exact ⟨none,rfl⟩
 ·exact ⟨q,rfl⟩
theorem isRow_some {v:Value} {g n cap:Nat} (h:IsRow v (some g) n cap):v = .slice (some ⟨g,0,none⟩) n cap:=by
 rcases h with rfl | ⟨h,_⟩
 ·rfl
 ·cases h
theorem strs_holds {w:World} {g t n cap:Nat} {l:List (List UInt8)} (hown:OwnRow w t 1 (some g) n cap (l.map encStr)):Holds encStr w g 0 l.toArray ∧ g < w.heap.size ∧ n = l.length ∧ n ≤ cap ∧ cap ≤ maxLen ∧
  ∃ cur fz,w.heap[g]? = some (.cells cur t fz) ∧ cur.size = cap ∧ cur.toList.take n = l.map encStr ∧ ∀ j,j < cur.size → ¬ (fz.1 ≤ j ∧ j < fz.2):=by
 obtain ⟨hlen,hc⟩:=hown
 rcases hc with ⟨h,_⟩ | ⟨g',cur,fz,hp,hh,hfz,hnc,hcm,hsz,htk⟩
 ·cases h
 ·cases hp
  simp only [List.length_map,Nat.mul_one] at hlen htk hsz
  refine ⟨fun j hj=>?_,(Array.getElem?_eq_some_iff.1 hh).1,hlen.symm,hnc,hcm,cur,fz,hh,hsz,htk,hfz⟩
  have hj':j < l.length:=by simpa using hj
  have hjc:j < cur.size:=by omega
  have h1:(l.map encStr)[j]? = some cur[j]:=by
   rw [← htk,List.getElem?_take,if_pos (by omega),Array.getElem?_toList,Array.getElem?_eq_getElem hjc]
  rw [List.getElem?_map,List.getElem?_eq_getElem hj',Option.map_some,Option.some.injEq] at h1
  refine ⟨?_,?_⟩
  ·simp only [World.cell?,hh,Nat.zero_add]
   rw [Array.getElem?_eq_getElem hjc,← h1]
   simp [hj']
  ·have:=hfz j hjc
   simp only [World.frozen?,hh,Nat.zero_add]
   rw [Bool.and_eq_false_iff]
   by_cases hc:fz.1 ≤ j
   ·right; simp; omega
   ·left; simpa using hc
theorem own_sorted {w:World} {g t cap n q:Nat} {os:Array Obj} {cur:Array Value} {fz:Nat × Nat} (ts:List (List UInt8)) (hh:w.heap[g]? = some (.cells cur t fz)) (hn:n = ts.length) (hnc:n ≤ cap) (hcm:cap ≤ maxLen) (hsz:cur.size = cap) (hfz:∀ j,j < cur.size → ¬ (fz.1 ≤ j ∧ j < fz.2)) :
  OwnRow (grow (putRow encStr (Sort.ahead w q) g 0 ts.toArray) os) t 1 (some g) n cap (ts.map encStr):=by
 have h1:=heap_sorted (n:=q) (os:=os) ts.toArray hh
 refine ⟨by simp [hn],.inr ⟨g,_,fz,rfl,h1,?_,hnc,hcm,?_,?_⟩⟩
 ·intro j hj
  exact hfz j (by simpa [putCells] using hj)
 ·simpa [putCells] using hsz
 ·rw [Nat.mul_one,hn]
  exact take_putCells cur ts (by omega)
theorem callsB_sort {f et:Nat} {l:List (List UInt8)} (hf:FOK P f)
  (hc:∀ (blk off cap:Nat) (ss:List (List UInt8)) (w:World),Holds encStr w blk off ss.toArray → blk < w.heap.size → ss.length < 4611686018427387904 →
   Calls P f #[.slice (some ⟨blk,off,none⟩) ss.length cap] w fun e w'=>e = .returned (.tuple #[]) ∧ ∃ n os,w' = grow (putRow encStr (Sort.ahead w n) blk off (ss.mergeSort fun x y=>decide (x ≤ y)).toArray) os)
  (hn:∀ (p:Option Addr) (cap:Nat) (w:World),Calls P f #[.slice p 0 cap] w fun e w'=>e = .returned (.tuple #[]) ∧ w' = w)
  (hl:decide (l.length * 17 ≤ limit) = true):CallsB P f [.row LIM] [(LIM,et,[.rowc false (α:=List UInt8) [] encS l])] (.tup []) [(LIM,et,[.rowc false (α:=List UInt8) [] encS (strSort l)])]:=by
 refine ⟨hf,fun F w1 B args hb hr=>?_⟩
 have hlim:l.length * 17 ≤ 140737488355328:=of_decide_eq_true hl
 obtain ⟨p,n,cap,v,hB,hv,rfl⟩:=row_arg hr
 obtain ⟨p',n',cap',hB',hn0,hpos,hge,xs,hxs,hown,hfz⟩:=hb.row' (M:=memL [(LIM,et,[D.rowc false (α:=List UInt8) [] encS l])]) List.mem_cons_self
 rw [hB] at hB'; cases hB'
 have hx:=strs_vals hxs
 subst hx
 cases p with
 | none =>
  have h0:l = [] ∧ n = 0 ∧ cap = 0:=by
   rcases hown.2 with ⟨_,h1,h2⟩ | ⟨_,_,_,h,_⟩
   ·exact ⟨List.eq_nil_of_length_eq_zero (by omega),h1,h2⟩
   ·cases h
  obtain ⟨rfl,rfl,rfl⟩:=h0
  obtain ⟨q,rfl⟩:=isRow_none hv
  refine (hn q 0 w1.w).mono ?_
  rintro e w' ⟨rfl,rfl⟩
  exact ⟨_,F,B,rfl,.tup [] [] .nil,by simpa [strSort] using hb⟩
 | some g =>
  obtain ⟨hH,hg,rfl,hnc,hcm,cur,fz,hh,hsz,htk,hfz'⟩:=strs_holds hown
  obtain rfl:=isRow_some hv
  refine (hc g 0 cap l w1.w hH hg (by omega)).mono ?_
  rintro e w' ⟨rfl,q,os,rfl⟩
  have hlen:(strSort l).length = l.length:=by simp [strSort]
  exact ⟨_,F,B,rfl,.tup [] [] .nil,hb.turned hB (grownBy_sorted _) ⟨_,strs_rep (strSort l),own_sorted (strSort l) hh hlen.symm hnc hcm hsz hfz'⟩ hlen⟩
end
end Go.Proofs.YtibgdilkodjojaaGreatDoor.RX
