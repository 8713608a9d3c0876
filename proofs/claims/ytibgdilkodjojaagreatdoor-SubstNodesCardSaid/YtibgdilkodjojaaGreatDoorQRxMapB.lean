import Derived.Test.YtibgdilkodjojaaGreatDoorQRxReg
set_option linter.all false
namespace Go.Proofs.YtibgdilkodjojaaGreatDoor.RX
open Go.RowKit
section
variable {P:Program} {F0:Fz} {w0:Pt P} {B:Env} {F:Fz} {M:Mem} {w:World} {a:Act} {Q:Exit → Act → World → Prop}
theorem Base.mset (hb:Base F0 w0 B F M w) {k t:Nat} {kk:Option IntKind} {ag:Bool} {α:Type} {d:α} {enc:α → List D} {l l':List (MK × α)} (hk:M k t [.mapc kk ag d enc l]) {b:Nat} {w':World} (hB:B k = some (.map b)) (hs:MapSet w w' b)
  (hnew:∃ es clock,w'.heap[b]? = some (.map es clock) ∧ MapKept.Stamped es clock ∧ EntsOK F w kk ag enc l' es.toList):Base F0 w0 B F (memRow k t (.mapc kk ag d enc l') M) w' ∧ Grow F F w w':=by
 obtain ⟨b',hB',hfr,hgood,hnf,_⟩:=hb.map' hk
 rw [hB] at hB'; cases hB'
 have hkb:=blkOf_map hB
 have hg:Grow F F w w':=⟨fun _ _ h=>h,fun g j hF=>by
  have hne:g ≠ b:=fun e=>by subst e; exact hnf j hF
  simp [World.cell?,hs.block g hne]⟩
 obtain ⟨es,clock,hh,hst,hes⟩:=hnew
 have hback:∀ j t' ds,memRow k t (.mapc kk ag d enc l') M j t' ds → ∃ t' ds,M j t' ds:=by
  rintro j t' ds (⟨rfl,_,_⟩ | ⟨_,h⟩)
  ·exact ⟨_,_,hk⟩
  ·exact ⟨_,_,h⟩
 refine ⟨⟨fun j t' ds hl=>?_,fun j t' ds b' hl hbk=>?_,fun i j c hi hj hBi hBj=>?_,fun g j hF=>?_,hb.more,hb.grow.trans hg,hb.below.trans ⟨hs.os,hs.tape,hs.output,Nat.le_of_eq hs.size.symm,fun i hi hsn=>?_⟩,hb.env⟩,hg⟩
 ·rcases hl with ⟨rfl,rfl,rfl⟩ | ⟨hjk,hy⟩
  ·exact .map kk ag d enc l' b hB ⟨hgood,hnf,es,clock,hh,hst,hes.grow hg⟩
  ·refine (hb.boxes _ _ _ hy).grow hg rfl (fun _ _ _ h=>h) fun b' hbk=>⟨hs.block b' fun e=>hjk ?_,fun _ h=>h⟩
   subst e
   exact hb.inj j k _ ⟨_,_,hy⟩ ⟨_,_,hk⟩ hbk hkb
 ·obtain ⟨t1,ds1,h1⟩:=hback _ _ _ hl
  exact hb.new _ _ _ _ h1 hbk
 ·obtain ⟨t1,d1,h1⟩:=hi
  obtain ⟨t2,d2,h2⟩:=hj
  exact hb.inj i j c (hback _ _ _ h1) (hback _ _ _ h2) hBi hBj
 ·rw [hs.size]; exact hb.frz g j hF
 ·refine hs.block i fun e=>?_
  subst e
  rcases hfr with h | h
  ·omega
  ·exact hsn h
theorem Base.mkmap (hb:Base F0 w0 B F M w) {t ty:Nat} {kk:Option IntKind} {ag:Bool} {α:Type} {d:α} {enc:α → List D} (hgood:GoodM ag enc) {B':Env} (hB':B' t = some (.map w.heap.size)) (henv:∀ k,LIM ≤ k → B' k = B k) {M':Mem}
  (hM:∀ k t' ds,M' k t' ds → M k t' ds ∧ k ≠ t ∧ B' k = B k ∧ ∀ F w vs,RepL F w B ds vs → RepL F w B' ds vs) :
  Base F0 w0 B' F (memBox t ty [.mapc kk ag d enc []] M') (w.alloc (.map #[] 0)) ∧ Grow F F w (w.alloc (.map #[] 0)):=by
 have hg:Grow F F w (w.alloc (.map #[] 0)):=⟨fun _ _ h=>h,fun g k hF=>World.cell?_alloc_lt _ _ _ (hb.frz g k hF)⟩
 have hsz:=hb.below.size
 have hlt:∀ b,(∃ k,(∃ t' ds,M' k t' ds) ∧ blkOf B k = some b) → b < w.heap.size:=by
  rintro b ⟨k,⟨t',ds,h⟩,hbk⟩
  exact (hb.boxes _ _ _ (hM _ _ _ h).1).lt hbk
 refine ⟨hb.newKey hg (.map kk ag d enc [] w.heap.size hB' ⟨hgood,fun j hj=>?_,#[],0,?_,MapKept.stamped_empty 0,.nil⟩) (fun b hbk=>?_) hM (fun b hbk=>⟨Below.heap_alloc _ _ _ (hlt b hbk),fun _ h=>h⟩) (fun g k hF=>?_) (fun g k h=>.inl h) (.of ((Below.refl _ w).alloc hsz _)) henv,hg⟩
 ·have:=hb.frz _ _ hj; omega
 ·show (w.heap.push _)[w.heap.size]? = _
  simp
 ·rw [blkOf_map hB'] at hbk; cases hbk
  exact ⟨.inl hsz,fun k hk _ hbk=>by have:=hlt _ ⟨k,hk,hbk⟩; omega⟩
 ·have:=hb.frz g k hF; simp; omega
theorem wp_mkmap {o:Oper} {t ty:Nat} {kk:Option IntKind} {ag:Bool} {α:Type} {d:α} {enc:α → List D} {K:Act → World → Prop} (h:OutOK P F w B M a o (.mkmap ty kk ag)) (hb:Base F0 w0 B F M w) (hgood:GoodM ag enc) {B':Env} (hB':B' t = some (.map w.heap.size)) (henv:∀ k,LIM ≤ k → B' k = B k) {M':Mem}
  (hM:∀ k t' ds,M' k t' ds → M k t' ds ∧ k ≠ t ∧ B' k = B k ∧ ∀ F w vs,RepL F w B ds vs → RepL F w B' ds vs)
  (hK:∀ w',Base F0 w0 B' F (memBox t ty [.mapc kk ag d enc []] M') w' → Grow F F w w' → K (a.put o.dst (.map (some w.heap.size))) w'):o.wp P a w K Q:=by
 have hrun:(execOp a.eval o).run P w = .ok (.value (.map (some w.heap.size))) (w.alloc (.map #[] 0)):=h
 unfold Oper.wp
 rw [hrun]
 obtain ⟨h1,h2⟩:=hb.mkmap (kk:=kk) (d:=d) (ty:=ty) hgood hB' henv hM
 exact hK _ h1 h2
theorem wp_mset {o:Oper} {k t:Nat} {kk:Option IntKind} {ag:Bool} {key:MK} {cells:List D} {α:Type} {d:α} {enc:α → List D} {l l':List (MK × α)} {K:Act → World → Prop} (h:OutOK P F w B M a o (.mset k kk ag key cells)) (hb:Base F0 w0 B F M w)
  (hno:D.noOwns cells = true) (hk:M k t [.mapc kk ag d enc l]) (hx:MsetOb enc l key cells l')
  (hK:∀ w',Base F0 w0 B F (memRow k t (.mapc kk ag d enc l') M) w' → Grow F F w w' → K (a.put o.dst undef) w'):o.wp P a w K Q:=by
 obtain ⟨v,hv,rfl⟩:=hx
 obtain ⟨b,w',hB,hrun,hs,hnew⟩:=h hno t α d enc l v hk hv
 unfold Oper.wp
 rw [hrun]
 obtain ⟨h1,h2⟩:=hb.mset (d:=d) hk hB hs hnew
 exact hK _ h1 h2
theorem wp_mdl {o:Oper} {k t:Nat} {kk:Option IntKind} {ag:Bool} {key:MK} {α:Type} {d:α} {enc:α → List D} {l:List (MK × α)} {K:Act → World → Prop} (h:OutOK P F w B M a o (.mdl k kk ag key)) (hb:Base F0 w0 B F M w)
  (hk:M k t [.mapc kk ag d enc l]) (hK:∀ w',Base F0 w0 B F (memRow k t (.mapc kk ag d enc (mdel l key)) M) w' → Grow F F w w' → K (a.put o.dst (.tuple #[])) w'):o.wp P a w K Q:=by
 obtain ⟨b,w',hB,hrun,hs,hnew⟩:=h t α d enc l hk
 unfold Oper.wp
 rw [hrun]
 obtain ⟨h1,h2⟩:=hb.mset (d:=d) hk hB hs hnew
 exact hK _ h1 h2
theorem wp_cpy {o:Oper} {k es t:Nat} {α:Type} {d:α} {enc:α → List D} {l xs:List α} {cells:List D} {n:Nat} {K:Act → World → Prop} (h:OutOK P F w B M a o (.cpy k es cells n)) (hb:Base F0 w0 B F M w)
  (hm:M k t [.rowc false d enc l]) (hz:(enc d).length = es) (hw:Weaks cells (xs.flatMap enc)) (hn:xs.length = n)
  (hK:∀ w',Base F0 w0 B F (memRow k t (.rowc false d enc (copyTo l xs)) M) w' → Grow F F w w' → K (a.put o.dst (.int .i64 (Nat.min n l.length:Nat))) w'):o.wp P a w K Q:=by
 obtain ⟨p,nn,cap,w',hB,hrun,hcase⟩:=h t α d enc l xs hm hz hw hn
 unfold Oper.wp
 rw [hrun]
 obtain ⟨p',n0,cap0,hB',hrow⟩:=hb.row' hm
 rw [hB] at hB'; cases hB'
 obtain ⟨hn0,hpos',hge,ys,hys,hown,hfz⟩:=hrow
 rcases hcase with ⟨rfl,rfl⟩ | ⟨b,cur,fz,us,rfl,hh,hus,rfl⟩
 ·have h0:l = []:=by
   rcases hown.2 with ⟨_,h7,_⟩ | ⟨g,cur,fz,hp,_⟩
   ·exact List.eq_nil_of_length_eq_zero (by omega)
   ·cases hp
  subst h0
  have hco:copyTo ([]:List α) xs = []:=by simp [copyTo]
  rw [hco] at hK
  refine hK _ (hb.sub fun j t' ds hj=>?_) (Grow.refl _ _)
  rcases hj with ⟨rfl,rfl,rfl⟩ | ⟨_,h⟩
  ·exact hm
  ·exact h
 have hnf:∀ j,¬ F b j:=fun j hj=>by have:=(hfz b rfl j).1 hj; simp at this
 have hg:Grow F F w (w.setRow b (setVals cur.toList 0 us).toArray):=⟨fun _ _ h=>h,fun g j hF=>cell_setRow_other _ _ _ _ (fun e=>by simp only at e; subst e; exact hnf j hF)⟩
 have hul:us.length = (xs.take l.length).length * es:=by rw [RepL.length hus,flatMap_length (fun x=>(hge x).1.trans hz)]
 have hlen:(copyTo l xs).length = l.length:=by
  simp only [copyTo,List.length_append,List.length_take,List.length_drop]; omega
 refine (fun hT=>hK _ (And.left hT) (And.right hT)) (hb.turn (w':=w.setRow b (setVals cur.toList 0 us).toArray) (M':=memRow k t (.rowc false d enc (copyTo l xs)) M) (blkOf_row hB) ⟨_,_,hm⟩ hnf rfl fun j t' ds hl=>?_)
 rcases hl with ⟨rfl,rfl,rfl⟩ | ⟨hjk,hy⟩
 rotate_left
 ·exact ⟨⟨_,_,hy⟩,fun h=>absurd h hjk,fun _=>hy⟩
 refine ⟨⟨_,_,hm⟩,fun _=>?_,fun h=>absurd rfl h⟩
 rcases hown.2 with ⟨hp,_⟩ | ⟨g,cur',fz',hp,hh',hfr,hnc,hcm,hcs,htk⟩
 ·cases hp
 ·cases hp
  rw [hh] at hh'
  cases hh'
  have hle:us.length ≤ cur.size:=by
   rw [hul,hcs,hz]; exact Nat.mul_le_mul_right _ (by rw [List.length_take]; omega)
  have hsl:(setVals cur.toList 0 us).length = cur.size:=by
   unfold setVals; simp; omega
  have hvals:RepL F w NB ((copyTo l xs).flatMap enc) (us ++ ys.drop us.length):=by
   unfold copyTo
   rw [List.flatMap_append]
   refine hus.append ?_
   have h1:=hys.drop us.length
   rw [hul,drop_flat (fun x=>(hge x).1.trans hz)] at h1
   rw [hul]
   have:l.drop (xs.take l.length).length = l.drop xs.length:=by
    rw [List.length_take]
    rcases Nat.le_total l.length xs.length with h | h
    ·rw [Nat.min_eq_left h,List.drop_of_length_le (Nat.le_refl _),List.drop_of_length_le h]
    ·rw [Nat.min_eq_right h]
   rwa [this] at h1
  refine .row false d enc _ (some b) nn cap hB ⟨by omega,hpos',hge,_,hvals.grow hg,⟨?_,.inr ⟨b,_,fz,rfl,setRow_heap _ _ _ _ _ _ hh,?_,hnc,hcm,by simpa using hsl.trans hcs,?_⟩⟩,fun b' hb' j=>?_⟩
  ·rw [RepL.length hvals,flatMap_length (fun x=>(hge x).1),hlen,hn0]
  ·intro j hj; exact hfr j (by simpa [hsl] using hj)
  ·unfold setVals
   simp only [List.take_zero,List.nil_append,Nat.zero_add]
   have hu2:us.length ≤ nn * (enc d).length:=by
    rw [hul,hz]; exact Nat.mul_le_mul_right _ (by rw [List.length_take]; omega)
   rw [List.take_append,List.take_of_length_le hu2,← htk,List.drop_take]
  ·have hb2:b' = b:=by cases hb'; rfl
   subst hb2
   exact ⟨fun hF=>absurd hF (hnf j),fun ⟨h,_⟩=>by cases h⟩
theorem wp_mlk {o:Oper} {k t:Nat} {kk:Option IntKind} {ag:Bool} {key:MK} {ok:Bool} {ez:List D} {α:Type} {d:α} {enc:α → List D} {l:List (MK × α)} {r:D} {K:Act → World → Prop} (h:OutOK P F w B M a o (.mlk k kk ag key ok ez))
  (hk:M k t [.mapc kk ag d enc l]) (hr:if ok then LookOkOb ag enc l key ez r else LookOb ag enc l key ez r) (hK:∀ v,Rep F w B r v → K (a.put o.dst v) w):o.wp P a w K Q:=by
 obtain ⟨v,hrun,hv⟩:=h t α d enc l hk r hr
 unfold Oper.wp
 rw [hrun]
 exact hK v hv
theorem wp_mlen {o:Oper} {k t:Nat} {kk:Option IntKind} {ag:Bool} {α:Type} {d:α} {enc:α → List D} {l:List (MK × α)} {K:Act → World → Prop} (h:OutOK P F w B M a o (.mlen k))
  (hk:M k t [.mapc kk ag d enc l]) (hK:K (a.put o.dst (.int .i64 l.length)) w):o.wp P a w K Q:=by
 have hrun:=h t kk ag α d enc l hk
 unfold Oper.wp
 rw [hrun]
 exact hK
end
end Go.Proofs.YtibgdilkodjojaaGreatDoor.RX
