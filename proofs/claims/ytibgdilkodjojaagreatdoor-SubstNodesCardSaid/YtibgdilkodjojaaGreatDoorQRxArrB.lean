import Derived.Test.YtibgdilkodjojaaGreatDoorQRxCall
set_option linter.all false
namespace Go.Proofs.YtibgdilkodjojaaGreatDoor.RX
open Go.RowKit
section
variable {P:Program} {F0:Fz} {w0:Pt P} {B:Env} {F:Fz} {M:Mem} {w:World} {a:Act} {Q:Exit → Act → World → Prop}
theorem mkOb_inv {z m:Nat} {cs:List D} {α:Type} {d:α} {enc:α → List D} {l:List α} (h:MkOb z cs m (.recs d enc l)):Weaks cs (l.flatMap enc) ∧ l.length = m ∧ (enc d).length = z:=by
 obtain ⟨α',d',enc',l',h1,h2,h3,h4⟩:=h
 cases h4
 exact ⟨h1,h2,h3⟩
theorem good_flat {α:Type} {d:α} {enc:α → List D} {l:List α} (h:GoodR (.recs d enc l)):(l.flatMap enc).all D.flat = true:=by
 rw [List.all_eq_true]
 intro x hx
 obtain ⟨y,_,h2⟩:=List.mem_flatMap.1 hx
 exact List.all_eq_true.1 (h.2 y).2 x h2
theorem toElm_val {k z:Nat}:∀ d v,toElm k z d ≠ some (.val v):=by
 intro d v h
 cases d <;> simp only [toElm] at h <;> first | (cases h; done) | (split at h <;> first | (cases h; done) | skip)
 ·simp only [Option.some.injEq] at h; split at h <;> cases h
theorem wp_arow {o:Oper} {t ty z m:Nat} {dd:D} {α:Type} {d:α} {enc:α → List D} {l:List α} {K:Act → World → Prop} (h:OutOK P F w B M a o (.arow ty z m dd)) (hb:Base F0 w0 B F M w)
  (hs:MkOb z dd.cells m (.recs d enc l)) (hgood:GoodR (.recs d enc l)) (hm:m ≤ maxLen) (ht:t < LIM) {M':Mem} (hM:∀ k t' ds,M' k t' ds → M k t' ds ∧ k ≠ t ∧ D.namess t ds = false)
  (hK:∀ v w' r,Base F0 w0 (setB B t r) F (memBox t ty [.rowc false d enc l] M') w' → Grow F F w w' → Rep F w' (setB B t r) (.elm t 0 z 0) v → K (a.put o.dst v) w'):o.wp P a w K Q:=by
 obtain ⟨vs,hr,hrun⟩:=h
 obtain ⟨h1,h2,h3⟩:=mkOb_inv hs
 unfold Oper.wp
 rw [hrun]
 have hvl:vs.length = m * z:=by rw [RepL.length hr,h1.length,flatMap_length (fun x=>(hgood.2 x).1),h2,h3]
 have hg:Grow F F w (w.alloc (.cells vs.toArray ty)):=⟨fun _ _ h=>h,fun g k hF=>World.cell?_alloc_lt _ _ _ (hb.frz g k hF)⟩
 have hsz:=hb.below.size
 have hlt:∀ b,(∃ k,(∃ t' ds,M' k t' ds) ∧ blkOf B k = some b) → b < w.heap.size:=by
  rintro b ⟨k,⟨t',ds,h⟩,hbk⟩
  exact (hb.boxes _ _ _ (hM _ _ _ h).1).lt hbk
 have hB':=setB_self B t (.row (some w.heap.size) m m)
 have hh:(w.alloc (.cells vs.toArray ty)).heap[w.heap.size]? = some (.cells vs.toArray ty (0,0)):=by
  show (w.heap.push _)[w.heap.size]? = _
  simp
 refine hK _ _ (.row (some w.heap.size) m m) (hb.newKey hg (.row false d enc l _ _ _ hB' ⟨h2.symm,hgood.1,hgood.2,vs,by exact h1.rep (hr.grow hg),⟨by rw [hvl,h3],.inr ⟨_,vs.toArray,(0,0),rfl,hh,fun j hj=>by simp,Nat.le_refl _,hm,by simp [hvl,h3],?_⟩⟩,fun b hb' j=>?_⟩) (fun b hbk=>?_) (fun k t' ds hm'=>?_) (fun b hbk=>⟨Below.heap_alloc _ _ _ (hlt b hbk),fun _ h=>h⟩) (fun g k hF=>?_) (fun g k h=>.inl h) (.of ((Below.refl _ w).alloc hsz _)) (fun k hk=>setB_ne _ _ _ _ (by omega))) hg ?_
 ·simp only [h3,← hvl,List.toList_toArray,List.take_length]
 ·cases hb'
  exact ⟨fun hF=>by have:=hb.frz _ _ hF; omega,fun ⟨h,_⟩=>by cases h⟩
 ·rw [blkOf_row hB'] at hbk; cases hbk
  exact ⟨.inl hsz,fun k hk _ hbk=>by have:=hlt _ ⟨k,hk,hbk⟩; omega⟩
 ·obtain ⟨h4,h5,h6⟩:=hM _ _ _ hm'
  exact ⟨h4,h5,setB_ne _ _ _ _ h5,fun F w vs hr=>hr.rebox t (setB_ne _ _ _) h6⟩
 ·have:=hb.frz g k hF; simp; omega
 ·have:=Rep.elm (F:=F) (w:=w.alloc (.cells vs.toArray ty)) (B:=setB B t (.row (some w.heap.size) m m)) t 0 z 0 w.heap.size m m hB'
  simpa using this
theorem wp_fill {o:Oper} {k z m t:Nat} {dd:D} {α:Type} {d:α} {enc:α → List D} {l:List α} {β:Type} {d0:β} {enc0:β → List D} {l0:List β} {K:Act → World → Prop} (h:OutOK P F w B M a o (.fill k z m dd)) (hb:Base F0 w0 B F M w)
  (hm:M k t [.rowc false d0 enc0 l0]) (hz:(enc0 d0).length = z) (hlm:l0.length = m) (hpos:0 < m) (hs:MkOb z dd.cells m (.recs d enc l)) (hgood:GoodR (.recs d enc l))
  (hK:∀ w',Base F0 w0 B F (memRow k t (.rowc false d enc l) M) w' → Grow F F w w' → K (a.put o.dst undef) w'):o.wp P a w K Q:=by
 obtain ⟨us,hu,hall⟩:=h
 obtain ⟨h1,h2,h3⟩:=mkOb_inv hs
 have hul:us.length = m * z:=by rw [RepL.length hu,h1.length,flatMap_length (fun x=>(hgood.2 x).1),h2,h3]
 obtain ⟨b,nn,cap,cur,fz,hB,hh,hrun⟩:=hall t β d0 enc0 l0 hm hz hlm hul (h1.flatr (good_flat hgood)) hpos
 unfold Oper.wp
 rw [hrun]
 obtain ⟨p,n0,cap0,hB',hrow⟩:=hb.row' hm
 rw [hB] at hB'; cases hB'
 obtain ⟨hn0,hpos',hge,xs,hxs,hown,hfz⟩:=hrow
 have hnf:∀ j,¬ F b j:=fun j hj=>by have:=(hfz b rfl j).1 hj; simp at this
 have hg:Grow F F w (w.setRow b (setVals cur.toList 0 us).toArray):=⟨fun _ _ h=>h,fun g j hF=>cell_setRow_other _ _ _ _ (fun e=>by simp only at e; subst e; exact hnf j hF)⟩
 refine (fun hT=>hK _ (And.left hT) (And.right hT)) (hb.turn (w':=w.setRow b (setVals cur.toList 0 us).toArray) (M':=memRow k t (.rowc false d enc l) M) (blkOf_row hB) ⟨_,_,hm⟩ hnf rfl fun j t' es hl=>?_)
 rcases hl with ⟨rfl,rfl,rfl⟩ | ⟨hjk,hy⟩
 rotate_left
 ·exact ⟨⟨_,_,hy⟩,fun h=>absurd h hjk,fun _=>hy⟩
 refine ⟨⟨_,_,hm⟩,fun _=>?_,fun h=>absurd rfl h⟩
 rcases hown.2 with ⟨hp,_⟩ | ⟨g,cur',fz',hp,hh',hfr,hnc,hcm,hcs,htk⟩
 ·cases hp
 ·cases hp
  rw [hh] at hh'
  cases hh'
  have hle:m * z ≤ cur.size:=by rw [hcs,hz]; exact Nat.mul_le_mul_right _ (by omega)
  have hsl:(setVals cur.toList 0 us).length = cur.size:=by
   unfold setVals; simp; omega
  have hnm:nn = m:=by omega
  refine .row false d enc _ (some b) nn cap hB ⟨by omega,hgood.1,hgood.2,us,h1.rep (hu.grow hg),⟨by rw [hul,h3,hnm],.inr ⟨b,_,fz,rfl,setRow_heap _ _ _ _ _ _ hh,?_,hnc,hcm,by rw [h3,← hz]; simpa using hsl.trans hcs,?_⟩⟩,fun b' hb' j=>?_⟩
  ·intro j hj; exact hfr j (by simpa [hsl] using hj)
  ·unfold setVals
   simp only [List.take_zero,List.nil_append,Nat.zero_add]
   rw [h3,hnm,← hul,List.take_left]
  ·have hb2:b' = b:=by cases hb'; rfl
   subst hb2
   exact ⟨fun hF=>absurd hF (hnf j),fun ⟨h,_⟩=>by cases h⟩
theorem Base.toRow (hb:Base F0 w0 B F M w) {k t b m z:Nat} {ds:List D} {vs:Array Value} {us:List Value} {α:Type} {d:α} {enc:α → List D} {l:List α} (hk:M k t ds) (hkl:k < LIM) (hB:B k = some (.box b)) (hh:w.heap[b]? = some (.cells vs t (0,0))) (hnf:∀ j,¬ F b j)
  (hu:RepL F w NB (l.flatMap enc) us) (hgood:GoodR (.recs d enc l)) (hl:l.length = m) (hz:(enc d).length = z) (hm:m ≤ maxLen) :
  Base F0 w0 (setB B k (.row (some b) m m)) F (fun j t' es=>(j = k ∧ t' = t ∧ es = [.rowc false d enc l]) ∨ (j ≠ k ∧ ∃ es',M j t' es' ∧ es = D.subs (toElm k z) es')) (w.setRow b us.toArray) ∧ Grow F F w (w.setRow b us.toArray) ∧ SubOK F (w.setRow b us.toArray) B (setB B k (.row (some b) m m)) (toElm k z):=by
 have hul:us.length = m * z:=by rw [RepL.length hu,flatMap_length (fun x=>(hgood.2 x).1),hl,hz]
 obtain ⟨h1,h2⟩:=hb.turn (w':=w.setRow b us.toArray) (M':=fun j t' es=>(j = k ∧ t' = t ∧ es = l.flatMap enc) ∨ (j ≠ k ∧ M j t' es)) (blkOf_box hB) ⟨_,_,hk⟩ hnf rfl fun j t' es hl=>by
  rcases hl with ⟨rfl,rfl,rfl⟩ | ⟨hjk,hy⟩
  rotate_left
  ·exact ⟨⟨_,_,hy⟩,fun h=>absurd h hjk,fun _=>hy⟩
  refine ⟨⟨_,_,hk⟩,fun _=>?_,fun h=>absurd rfl h⟩
  have hg:Grow F F w (w.setRow b us.toArray):=⟨fun _ _ h=>h,fun g j hF=>cell_setRow_other _ _ _ _ (fun e=>by simp only at e; subst e; exact hnf j hF)⟩
  exact .box _ b us hB ((hu.grow hg).lift fun _=>rfl) (good_flat hgood) (setRow_heap _ _ _ _ _ _ hh) hnf
 have hg:Grow F F w (w.setRow b us.toArray):=h2
 have hsub:SubOK F (w.setRow b us.toArray) B (setB B k (.row (some b) m m)) (toElm k z):=by
  refine ⟨fun e r v h hv=>?_,fun j off h=>?_,fun j h=>?_,fun j h=>?_,fun j h=>?_,fun j n z off h=>?_,fun j h=>?_⟩
  ·cases e <;> simp only [toElm] at h <;> first | (cases h; done) | skip
   ·rename_i j off
    split at h
    ·rename_i hjk
     subst hjk
     cases h
     cases hv with
     | own _ _ b' hB' =>
      rw [hB] at hB'; cases hB'
      split
      ·rename_i h0
       subst h0
       have:=Rep.elm (F:=F) (w:=w.setRow b us.toArray) (B:=setB B j (.row (some b) m m)) j 0 z 0 b m m (setB_self _ _ _)
       simpa using this
      ·exact .hole _ rfl
    ·cases h
   ·rename_i j
    split at h
    ·cases h; cases hv; rename_i hv; rcases hv with rfl | rfl <;> exact .hole _ rfl
    ·cases h
   ·rename_i j
    split at h
    ·cases h; cases hv <;> exact .hole _ rfl
    ·cases h
   ·rename_i j
    split at h
    ·cases h; cases hv <;> exact .hole _ rfl
    ·cases h
   ·rename_i j
    split at h
    ·cases h; cases hv <;> exact .hole _ rfl
    ·cases h
   ·rename_i j i z off
    split at h
    ·cases h; cases hv <;> exact .hole _ rfl
    ·cases h
  ·simp only [toElm] at h
   split at h
   ·cases h
   ·rename_i hne; exact setB_ne _ _ _ _ hne
  ·simp only [toElm] at h
   split at h
   ·cases h
   ·rename_i hne; exact setB_ne _ _ _ _ hne
  ·simp only [toElm] at h
   split at h
   ·cases h
   ·rename_i hne; exact setB_ne _ _ _ _ hne
  ·simp only [toElm] at h
   split at h
   ·cases h
   ·rename_i hne; exact setB_ne _ _ _ _ hne
  ·simp only [toElm] at h
   split at h
   ·cases h
   ·rename_i hne; exact setB_ne _ _ _ _ hne
  ·simp only [toElm] at h
   split at h
   ·cases h
   ·rename_i hne; exact setB_ne _ _ _ _ hne
 have hblk:∀ j,blkOf (setB B k (.row (some b) m m)) j = blkOf B j:=by
  intro j
  by_cases hj:j = k
  ·subst hj; rw [blkOf_row (setB_self _ _ _),blkOf_box hB]
  ·exact blkOf_ne (setB_ne _ _ _ _ hj)
 have hflat:∀ e r,toElm k z e = some r → r.flat = true:=by
  intro e r h
  cases e <;> simp only [toElm] at h <;> first | (cases h; done) | (split at h <;> first | (cases h; done) | skip)
  ·cases h; split <;> rfl
  ·cases h; rfl
  ·cases h; rfl
  ·cases h; rfl
  ·cases h; rfl
  ·cases h; rfl
 have hdom:∀ j t' es,((j = k ∧ t' = t ∧ es = [.rowc false d enc l]) ∨ (j ≠ k ∧ ∃ es',M j t' es' ∧ es = D.subs (toElm k z) es')) → ∃ t es,((j = k ∧ t = t' ∧ es = l.flatMap enc) ∨ (j ≠ k ∧ M j t es)):=by
  rintro j t' es (⟨rfl,rfl,rfl⟩ | ⟨hjk,es',h4,rfl⟩)
  ·exact ⟨_,_,.inl ⟨rfl,rfl,rfl⟩⟩
  ·exact ⟨_,_,.inr ⟨hjk,h4⟩⟩
 have hdom2:∀ j,(∃ t' es,(j = k ∧ t' = t ∧ es = [.rowc false d enc l]) ∨ (j ≠ k ∧ ∃ es',M j t' es' ∧ es = D.subs (toElm k z) es')) → ∃ t' es,(j = k ∧ t' = t ∧ es = l.flatMap enc) ∨ (j ≠ k ∧ M j t' es):=by
  rintro j ⟨t',es,⟨rfl,rfl,rfl⟩ | ⟨hjk,es',h4,rfl⟩⟩
  ·exact ⟨_,_,.inl ⟨rfl,rfl,rfl⟩⟩
  ·exact ⟨_,_,.inr ⟨hjk,h4⟩⟩
 refine ⟨⟨fun j t' es hm'=>?_,fun j t' es c hm' hbk=>?_,fun i j c hi hj hBi hBj=>?_,h1.frz,h1.more,h1.grow,h1.below,fun j c hj=>?_⟩,hg,hsub⟩
 ·rcases hm' with ⟨rfl,rfl,rfl⟩ | ⟨hjk,es',h4,rfl⟩
  ·refine .row false d enc l _ _ _ (setB_self _ _ _) ⟨hl.symm,hgood.1,hgood.2,us,hu.grow hg,⟨by rw [hul,hz],.inr ⟨b,us.toArray,(0,0),rfl,setRow_heap _ _ _ _ _ _ hh,fun j hj=>by simp,Nat.le_refl _,hm,by simp [hul,hz],?_⟩⟩,fun b' hb' j=>?_⟩
   ·simp only [hz,← hul,List.toList_toArray,List.take_length]
   ·cases hb'
    exact ⟨fun hF=>absurd hF (hnf j),fun ⟨h,_⟩=>by cases h⟩
  ·have hold:=h1.boxes j t' es' (.inr ⟨hjk,h4⟩)
   cases hold with
   | box _ c us' hB' hr' hfl' hh' hnf'=>exact .box _ c us' ((setB_ne _ _ _ _ hjk).trans hB') (hr'.sub hsub) (subs_flat hflat hfl') hh' hnf'
   | row mm d' enc' l' p n cap hB' h=>rw [subs_one]; exact .row mm d' enc' l' p n cap ((setB_ne _ _ _ _ hjk).trans hB') h
   | map kk ag d' enc' l' c hB' h=>exact .map kk ag d' enc' l' c ((setB_ne _ _ _ _ hjk).trans hB') h
   | obj c o S hB' q2 q3 q4 q5=>exact .obj c o S ((setB_ne _ _ _ _ hjk).trans hB') q2 q3 q4 q5
 ·rw [hblk] at hbk
  obtain ⟨t1,e1,h4⟩:=hdom2 _ ⟨_,_,hm'⟩
  exact h1.new _ _ _ _ h4 hbk
 ·rw [hblk] at hBi hBj
  exact h1.inj i j c (hdom2 _ hi) (hdom2 _ hj) hBi hBj
 ·have hge:=w0.low j (by rw [hj]; exact fun e=>by cases e)
  rw [setB_ne _ _ _ _ (by omega)]
  exact hb.env j c hj
theorem wp_turn {o:Oper} {k z m t:Nat} {ds:List D} {dd:D} {α:Type} {d:α} {enc:α → List D} {l:List α} {K:Act → World → Prop} (h:OutOK P F w B M a o (.turn k z m dd)) (hb:Base F0 w0 B F M w)
  (hk:M k t ds) (hkl:k < LIM) (hm:m ≤ maxLen) (hs:MkOb z dd.cells m (.recs d enc l)) (hgood:GoodR (.recs d enc l))
  (hK:∀ w' r,Base F0 w0 (setB B k r) F (fun j t' es=>(j = k ∧ t' = t ∧ es = [.rowc false d enc l]) ∨ (j ≠ k ∧ ∃ es',M j t' es' ∧ es = D.subs (toElm k z) es')) w' → Grow F F w w' → SubOK F w' B (setB B k r) (toElm k z) → K (a.put o.dst undef) w'):o.wp P a w K Q:=by
 obtain ⟨us,hu,hall⟩:=h
 obtain ⟨h1,h2,h3⟩:=mkOb_inv hs
 have hul:us.length = m * z:=by rw [RepL.length hu,h1.length,flatMap_length (fun x=>(hgood.2 x).1),h2,h3]
 obtain ⟨b,t',ds',vs,hB,hm',hh,hsz,hnf,hrun⟩:=hall hul (h1.flatr (good_flat hgood))
 unfold Oper.wp
 rw [hrun]
 have htt:t' = t:=by
  have hh1:=hb.boxes _ _ _ hm'
  have hh2:=hb.boxes _ _ _ hk
  cases hh2 with
  | box _ b2 vs2 hB2 hr2 hfl2 hhh2 hnf2 =>
   rw [hB] at hB2; cases hB2
   rw [hh] at hhh2; cases hhh2; rfl
  | row mm d2 enc2 l2 p n cap hB2 h=>rw [hB] at hB2; cases hB2
  | map kk ag d2 enc2 l2 c hB2 h=>rw [hB] at hB2; cases hB2
  | obj c o S hB2=>rw [hB] at hB2; cases hB2
 subst htt
 have hu:=h1.rep hu
 obtain ⟨h4,h5,h6⟩:=hb.toRow hk hkl hB hh hnf hu hgood h2 h3 hm
 exact hK _ _ h4 h5 h6
end
end Go.Proofs.YtibgdilkodjojaaGreatDoor.RX
