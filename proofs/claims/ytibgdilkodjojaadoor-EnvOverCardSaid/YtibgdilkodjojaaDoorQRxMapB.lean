import Derived.Test.YtibgdilkodjojaaDoorQRxReg
set_option linter.all false
namespace Go.Proofs.YtibgdilkodjojaaDoor.RX
open Go.RowKit
section
variable {P:Program} {F0:Fz} {w0:Pt P} {B:Env} {F:Fz} {M:Mem} {w:World} {a:Act} {Q:Exit → Act → World → Prop}
theorem Base.mset (hb:Base F0 w0 B F M w) {k t:Nat} {kk:Option IntKind} {ag:Bool} {α:Type} {d:α} {enc:α → List D} {l l':List (MK × α)} (hk:M k t [.mapc kk ag d enc l]) {b:Nat} {w':World} (hB:B k = some (.map b)) (hs:MapSet w w' b)
  (hnew:∃ es clock,w'.heap[b]? = some (.map es clock) ∧ MapKept.Stamped es clock ∧ EntsOK F w kk ag enc l' es.toList):Base F0 w0 B F (memRow k t (.mapc kk ag d enc l') M) w' ∧ Grow F F w w':=by
 obtain ⟨b',hB',hfr,hgood,hnf,_⟩:=hb.map' hk
 rw [hB] at hB'; cases hB'
 have hkb:=blkOf_map hB
 have hg:Grow F F w w':=⟨fun _ _ h=>h,fun g j hF=>by
  have hne:g ≠ b:=fun e=>by subst e; exact hnf j hF
  simp [World.cell?,hs.block g hne]⟩
 obtain ⟨es,clock,hh,hst,hes⟩:=hnew
 have hback:∀ j t' ds,memRow k t (.mapc kk ag d enc l') M j t' ds → ∃ t' ds,M j t' ds:=by
  rintro j t' ds (⟨rfl,_,_⟩ | ⟨_,h⟩)
  ·exact ⟨_,_,hk⟩
  ·exact ⟨_,_,h⟩
 refine ⟨⟨fun j t' ds hl=>?_,fun j t' ds b' hl hbk=>?_,fun i j c hi hj hBi hBj=>?_,fun g j hF=>?_,hb.more,hb.grow.trans hg,hb.below.trans ⟨hs.os,hs.tape,hs.output,Nat.le_of_eq hs.size.symm,fun i hi hsn=>?_⟩,hb.env⟩,hg⟩
 ·rcases hl with ⟨rfl,rfl,rfl⟩ | ⟨hjk,hy⟩
  ·exact .map kk ag d enc l' b hB ⟨hgood,hnf,es,clock,hh,hst,hes.grow hg⟩
  ·refine (hb.boxes _ _ _ hy).grow hg rfl (fun _ _ _ h=>h) fun b' hbk=>⟨hs.block b' fun e=>hjk ?_,fun _ h=>h⟩
   subst e
   exact hb.inj j k _ ⟨_,_,hy⟩ ⟨_,_,hk⟩ hbk hkb
 ·obtain ⟨t1,ds1,h1⟩:=hback _ _ _ hl
  exact hb.new _ _ _ _ h1 hbk
 ·obtain ⟨t1,d1,h1⟩:=hi
  obtain ⟨t2,d2,h2⟩:=hj
  exact hb.inj i j c (hback _ _ _ h1) (hback _ _ _ h2) hBi hBj
 ·rw [hs.size]; exact hb.frz g j hF
 ·refine hs.block i fun e=>?_
  subst e
  rcases hfr with h | h
  ·omega
  ·exact hsn h
theorem Base.mkmap (hb:Base F0 w0 B F M w) {t ty:Nat} {kk:Option IntKind} {ag:Bool} {α:Type} {d:α} {enc:α → List D} (hgood:GoodM ag enc) {B':Env} (hB':B' t = some (.map w.heap.size)) (henv:∀ k,LIM ≤ k → B' k = B k) {M':Mem}
  (hM:∀ k t' ds,M' k t' ds → M k t' ds ∧ k ≠ t ∧ B' k = B k ∧ ∀ F w vs,RepL F w B ds vs → RepL F w B' ds vs) :
  Base F0 w0 B' F (memBox t ty [.mapc kk ag d enc []] M') (w.alloc (.map #[] 0)) ∧ Grow F F w (w.alloc (.map #[] 0)):=by
 have hg:Grow F F w (w.alloc (.map #[] 0)):=⟨fun _ _ h=>h,fun g k hF=>World.cell?_alloc_lt _ _ _ (hb.frz g k hF)⟩
 have hsz:=hb.below.size
 have hlt:∀ b,(∃ k,(∃ t' ds,M' k t' ds) ∧ blkOf B k = some b) → b < w.heap.size:=by
  rintro b ⟨k,⟨t',ds,h⟩,hbk⟩
  exact (hb.boxes _ _ _ (hM _ _ _ h).1).lt hbk
 refine ⟨hb.newKey hg (.map kk ag d enc [] w.heap.size hB' ⟨hgood,fun j hj=>?_,#[],0,?_,MapKept.stamped_empty 0,.nil⟩) (fun b hbk=>?_) hM (fun b hbk=>⟨Below.heap_alloc _ _ _ (hlt b hbk),fun _ h=>h⟩) (fun g k hF=>?_) (fun g k h=>.inl h) (.of ((Below.refl _ w).alloc hsz _)) henv,hg⟩
 ·have:=hb.frz _ _ hj; omega
 ·show (w.heap.push _)[w.heap.size]? = _
  simp
 ·rw [blkOf_map hB'] at hbk; cases hbk
  exact ⟨.inl hsz,fun k hk _ hbk=>by have:=hlt _ ⟨k,hk,hbk⟩; omega⟩
 ·have:=hb.frz g k hF; simp; omega
theorem wp_mkmap {o:Oper} {t ty:Nat} {kk:Option IntKind} {ag:Bool} {α:Type} {d:α} {enc:α → List D} {K:Act → World → Prop} (h:OutOK P F w B M a o (.mkmap ty kk ag)) (hb:Base F0 w0 B F M w) (hgood:GoodM ag enc) {B':Env} (hB':B' t = some (.map w.heap.size)) (henv:∀ k,LIM ≤ k → B' k = B k) {M':Mem}
  (hM:∀ k t' ds,M' k t' ds → M k t' ds ∧ k ≠ t ∧ B' k = B k ∧ ∀ F w vs,RepL F w B ds vs → RepL F w B' ds vs)
  (hK:∀ w',Base F0 w0 B' F (memBox t ty [.mapc kk ag d enc []] M') w' → Grow F F w w' → K (a.put o.dst (.map (some w.heap.size))) w'):o.wp P a w K Q:=by
 have hrun:(execOp a.eval o).run P w = .ok (.value (.map (some w.heap.size))) (w.alloc (.map #[] 0)):=h
 unfold Oper.wp
 rw [hrun]
 obtain ⟨h1,h2⟩:=hb.mkmap (kk:=kk) (d:=d) (ty:=ty) hgood hB' henv hM
 exact hK _ h1 h2
theorem wp_mset {o:Oper} {k t:Nat} {kk:Option IntKind} {ag:Bool} {key:MK} {cells:List D} {α:Type} {d:α} {enc:α → List D} {l l':List (MK × α)} {K:Act → World → Prop} (h:OutOK P F w B M a o (.mset k kk ag key cells)) (hb:Base F0 w0 B F M w)
  (hno:D.noOwns cells = true) (hk:M k t [.mapc kk ag d enc l]) (hx:MsetOb enc l key cells l')
  (hK:∀ w',Base F0 w0 B F (memRow k t (.mapc kk ag d enc l') M) w' → Grow F F w w' → K (a.put o.dst undef) w'):o.wp P a w K Q:=by
 obtain ⟨v,hv,rfl⟩:=hx
 obtain ⟨b,w',hB,hrun,hs,hnew⟩:=h hno t α d enc l v hk hv
 unfold Oper.wp
 rw [hrun]
 obtain ⟨h1,h2⟩:=hb.mset (d:=d) hk hB hs hnew
 exact hK _ h1 h2
theorem wp_mlk {o:Oper} {k t:Nat} {kk:Option IntKind} {ag:Bool} {key:MK} {ok:Bool} {ez:List D} {α:Type} {d:α} {enc:α → List D} {l:List (MK × α)} {r:D} {K:Act → World → Prop} (h:OutOK P F w B M a o (.mlk k kk ag key ok ez))
  (hk:M k t [.mapc kk ag d enc l]) (hr:if ok then LookOkOb ag enc l key ez r else LookOb ag enc l key ez r) (hK:∀ v,Rep F w B r v → K (a.put o.dst v) w):o.wp P a w K Q:=by
 obtain ⟨v,hrun,hv⟩:=h t α d enc l hk r hr
 unfold Oper.wp
 rw [hrun]
 exact hK v hv
theorem wp_mlen {o:Oper} {k t:Nat} {kk:Option IntKind} {ag:Bool} {α:Type} {d:α} {enc:α → List D} {l:List (MK × α)} {K:Act → World → Prop} (h:OutOK P F w B M a o (.mlen k))
  (hk:M k t [.mapc kk ag d enc l]) (hK:K (a.put o.dst (.int .i64 l.length)) w):o.wp P a w K Q:=by
 have hrun:=h t kk ag α d enc l hk
 unfold Oper.wp
 rw [hrun]
 exact hK
end
end Go.Proofs.YtibgdilkodjojaaDoor.RX
