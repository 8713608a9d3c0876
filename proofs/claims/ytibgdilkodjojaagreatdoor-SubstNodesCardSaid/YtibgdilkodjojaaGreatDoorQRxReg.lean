import Derived.Test.YtibgdilkodjojaaGreatDoorQRxStep
import Derived.Laws.CopyOwn
set_option linter.all false
namespace Go.Proofs.YtibgdilkodjojaaGreatDoor.RX
open Go.RowKit
def Fplus (F:Fz) (w w':World):Fz:=fun g k=>F g k ∨ (w.heap.size ≤ g ∧ g < w'.heap.size)
def CallsX (P:Program) (f:Nat) (ds:List D) (r:D):Prop :=
 FOK P f ∧ ∀ (F:Fz) (w:World) (args:List Value),Shp P w → (∀ g k,F g k → g < w.heap.size) → RepL F w NB ds args →
  Calls P f args.toArray w fun e w'=>∃ v,e = .returned v ∧ Rep (Fplus F w w') w' NB r v ∧ Below w.heap.size w w'
def ExtX (P:Program) (f:Nat) (ds:List D) (r:D):Prop:=∀ (F:Fz) (w:World) (B:Env) (args:List Value),RepL F w B ds args → ∃ v,(callFunc f args.toArray).run P w = .ok (.value v) w ∧ Rep F w NB r v
def CX (P:Program) (f:Nat) (ds:List D) (r:D):Prop:=CallsX P f ds r ∨ ExtX P f ds r
section
variable {P:Program} {F0:Fz} {w0:Pt P} {B:Env} {F:Fz} {M:Mem} {w:World} {a:Act} {Q:Exit → Act → World → Prop}
def setB (B:Env) (t:Nat) (r:Ref):Env:=fun i=>if i = t then some r else B i
theorem setB_self (B:Env) (t:Nat) (r:Ref):setB B t r t = some r:=by simp [setB]
theorem setB_ne (B:Env) (t:Nat) (r:Ref) (i:Nat) (h:i ≠ t):setB B t r i = B i:=by simp [setB,h]
theorem blkOf_ne {B B':Env} {i:Nat} (h:B' i = B i):blkOf B' i = blkOf B i:=by simp [blkOf,h]
theorem Base.callee (hb:Base F0 w0 B F M w) {w':World} (h:Below w.heap.size w w'):Base F0 w0 B (Fplus F w w') M w' ∧ Grow F (Fplus F w w') w w':=by
 have hg:Grow F (Fplus F w w') w w':=⟨fun g k hF=>.inl hF,fun g k hF=>h.cell (p:=⟨g,k,none⟩) (hb.frz g k hF)⟩
 refine ⟨⟨fun k t ds hl=>?_,hb.new,hb.inj,fun g k hF=>?_,fun g k hF=>?_,hb.grow.trans hg,hb.below.trans (.of (h.mono hb.below.size)),hb.env⟩,hg⟩
 ·have hh:=hb.boxes _ _ _ hl
  refine hh.grow hg rfl (fun _ _ _ h=>h) fun b hbk=>?_
  have hlt:=hh.lt hbk
  refine ⟨h.block b hlt,fun j hj=>?_⟩
  rcases hj with hj | ⟨hj,_⟩
  ·exact hj
  ·omega
 ·rcases hF with hF | ⟨_,hF⟩
  ·have:=hb.frz g k hF; have:=h.size; omega
  ·exact hF
 ·rcases hF with hF | ⟨hF,_⟩
  ·exact hb.more g k hF
  ·have:=hb.below.size; exact .inr (.inl (by omega))
theorem Base.draw (hb:Base F0 w0 B F M w):Base F0 w0 B F M w.drew:=by
 have hg:Grow F F w w.drew:=⟨fun _ _ h=>h,fun _ _ _=>rfl⟩
 refine ⟨fun k t ds hl=>?_,hb.new,hb.inj,hb.frz,hb.more,hb.grow.trans hg,hb.below.trans (.of (Below.refl _ w).drew),hb.env⟩
 exact (hb.boxes _ _ _ hl).grow hg rfl (fun _ _ _ h=>h) fun b _=>⟨rfl,fun _ h=>h⟩
def memBox (t ty:Nat) (cells:List D) (M:Mem):Mem:=fun k t' ds=>(k = t ∧ t' = ty ∧ ds = cells) ∨ M k t' ds
def memStore (k off:Nat) (cells:List D) (M:Mem):Mem:=fun j t ds=>∃ es,M j t es ∧ ds = if j = k then setCells es off cells else es
theorem Base.newKey (hb:Base F0 w0 B F M w) {t ty:Nat} {ds:List D} {F':Fz} {w':World} {B':Env} {M':Mem} (hg:Grow F F' w w')
  (hheld:Held F' w' B' t ty ds) (hblk:∀ b,blkOf B' t = some b → w0.fresh b ∧ ∀ k,(∃ t' ds,M' k t' ds) → k ≠ t → blkOf B k ≠ some b)
  (hM:∀ k t' ds,M' k t' ds → M k t' ds ∧ k ≠ t ∧ B' k = B k ∧ ∀ F w vs,RepL F w B ds vs → RepL F w B' ds vs)
  (hkeep:∀ b,(∃ k,(∃ t' ds,M' k t' ds) ∧ blkOf B k = some b) → w'.heap[b]? = w.heap[b]? ∧ ∀ j,F' b j → F b j)
  (hfrz:∀ g k,F' g k → g < w'.heap.size) (hmore:∀ g k,F' g k → F g k ∨ w0.fresh g) (hbel:BelowS w0.own w0.w.heap.size w w') (henv:∀ k,LIM ≤ k → B' k = B k):Base F0 w0 B' F' (memBox t ty ds M') w':=by
 refine ⟨fun k t' ds' hl=>?_,fun k t' ds' b hl hbk=>?_,fun i j b hi hj hBi hBj=>?_,hfrz,fun g k hF=>?_,hb.grow.trans hg,hb.below.trans hbel,fun k b h=>(henv k (w0.low k (by rw [h]; exact fun e=>by cases e))).trans (hb.env k b h)⟩
 ·rcases hl with ⟨rfl,rfl,rfl⟩ | h
  ·exact hheld
  ·obtain ⟨h1,h2,h3,h4⟩:=hM _ _ _ h
   exact (hb.boxes _ _ _ h1).grow hg h3 h4 fun b hbk=>hkeep b ⟨k,⟨_,_,h⟩,hbk⟩
 ·rcases hl with ⟨rfl,_,_⟩ | h
  ·exact (hblk b hbk).1
  ·obtain ⟨h1,h2,h3,_⟩:=hM _ _ _ h
   rw [blkOf_ne h3] at hbk
   exact hb.new _ _ _ _ h1 hbk
 ·have key:∀ i b,(∃ t' ds',memBox t ty ds M' i t' ds') → blkOf B' i = some b → i = t ∨ (i ≠ t ∧ (∃ t' ds',M' i t' ds') ∧ (∃ t' ds',M i t' ds') ∧ blkOf B i = some b):=by
   rintro i b ⟨t',ds',h⟩ hBi
   rcases h with ⟨rfl,_,_⟩ | h
   ·exact .inl rfl
   ·obtain ⟨h1,h2,h3,_⟩:=hM _ _ _ h
    rw [blkOf_ne h3] at hBi
    exact .inr ⟨h2,⟨_,_,h⟩,⟨_,_,h1⟩,hBi⟩
  rcases key i b hi hBi with h1 | ⟨h1,h2,h3,h4⟩
  ·rcases key j b hj hBj with h1' | ⟨h1',h2',h3',h4'⟩
   ·rw [h1,h1']
   ·subst h1; exact absurd h4' ((hblk b hBi).2 j h2' h1')
  ·rcases key j b hj hBj with h1' | ⟨h1',h2',h3',h4'⟩
   ·subst h1'; exact absurd h4 ((hblk b hBj).2 i h2 h1)
   ·exact hb.inj i j b h3 h3' h4 h4'
 ·rcases hmore g k hF with h | h
  ·exact hb.more g k h
  ·exact .inr h
theorem Base.box (hb:Base F0 w0 B F M w) {t ty:Nat} {cells:List D} {vs:List Value} (hr:RepL F w B cells vs) (hfl:cells.all D.flat = true) {B':Env} (hB':B' t = some (.box w.heap.size)) (henv:∀ k,LIM ≤ k → B' k = B k) {M':Mem}
  (hcells:∀ F w vs,RepL F w B cells vs → RepL F w B' cells vs)
  (hM:∀ k t' ds,M' k t' ds → M k t' ds ∧ k ≠ t ∧ B' k = B k ∧ ∀ F w vs,RepL F w B ds vs → RepL F w B' ds vs) :
  Base F0 w0 B' F (memBox t ty cells M') (w.alloc (.cells vs.toArray ty)) ∧ Grow F F w (w.alloc (.cells vs.toArray ty)):=by
 have hg:Grow F F w (w.alloc (.cells vs.toArray ty)):=⟨fun _ _ h=>h,fun g k hF=>World.cell?_alloc_lt _ _ _ (hb.frz g k hF)⟩
 have hsz:=hb.below.size
 have hlt:∀ b,(∃ k,(∃ t' ds,M' k t' ds) ∧ blkOf B k = some b) → b < w.heap.size:=by
  rintro b ⟨k,⟨t',ds,h⟩,hbk⟩
  exact (hb.boxes _ _ _ (hM _ _ _ h).1).lt hbk
 refine ⟨hb.newKey hg (.box _ w.heap.size vs hB' ((hcells _ _ _ hr).grow hg) hfl ?_ fun j hj=>?_) (fun b hbk=>?_) hM (fun b hbk=>⟨Below.heap_alloc _ _ _ (hlt b hbk),fun _ h=>h⟩) (fun g k hF=>?_) (fun g k h=>.inl h) (.of ((Below.refl _ w).alloc hsz _)) henv,hg⟩
 ·show (w.heap.push _)[w.heap.size]? = _
  simp
 ·have:=hb.frz _ _ hj; omega
 ·rw [blkOf_box hB'] at hbk; cases hbk
  exact ⟨.inl hsz,fun k hk _ hbk=>by have:=hlt _ ⟨k,hk,hbk⟩; omega⟩
 ·have:=hb.frz g k hF; simp; omega
def Frow (F:Fz) (m:Bool) (p:Option Nat) (N:Nat):Fz:=fun g k=>F g k ∨ (m = true ∧ p = some g ∧ k < N)
theorem Base.row (hb:Base F0 w0 B F M w) {t e:Nat} {m:Bool} {α:Type} {d:α} {enc:α → List D} {l:List α} {p p0:Option Nat} {n cap pre:Nat} {xs:List Value} {w':World} (hn:n = l.length) (hr:RepL F w NB (l.flatMap enc) xs) (hgood:GoodR (.recs d enc l))
  (hown:OwnRow w' e (enc d).length p n cap xs) (hstep:RowStep w w' p p0 pre) (hpre:pre ≤ n * (enc d).length)
  (hp0:∀ b,p0 = some b → w0.fresh b ∧ b < w.heap.size ∧ (∀ j,F b j → m = true ∧ j < pre)) {B':Env} (hB':B' t = some (.row p n cap)) (henv:∀ k,LIM ≤ k → B' k = B k) {M':Mem}
  (hM:∀ k t' ds,M' k t' ds → M k t' ds ∧ k ≠ t ∧ B' k = B k ∧ ∀ F w vs,RepL F w B ds vs → RepL F w B' ds vs) (hno:∀ b,p0 = some b → ∀ k,(∃ t' ds,M' k t' ds) → blkOf B k ≠ some b) :
  Base F0 w0 B' (Frow F m p (n * (enc d).length)) (memBox t e [.rowc m d enc l] M') w' ∧ Grow F (Frow F m p (n * (enc d).length)) w w':=by
 have hsz:=hb.below.size
 have hblocks:∀ b,b < w.heap.size → p0 ≠ some b → w'.heap[b]? = w.heap[b]?:=by
  intro b hlt hne
  rcases hstep with ⟨_,hgr,_⟩ | ⟨_,hgr⟩
  ·exact hgr.block b hlt fun e=>hne e.symm
  ·exact hgr.block b hlt (by simp)
 have hgs:w.heap.size ≤ w'.heap.size:=by rcases hstep with ⟨_,hgr,_⟩ | ⟨_,hgr⟩ <;> exact hgr.size
 have hg:Grow F (Frow F m p (n * (enc d).length)) w w':=by
  refine ⟨fun _ _ h=>.inl h,fun g k hF=>?_⟩
  have hlt:=hb.frz g k hF
  by_cases hpe:p0 = some g
  ·rcases hstep with ⟨_,_,hk⟩ | ⟨_,hgr⟩
   ·exact hk g hpe k ((hp0 g hpe).2.2 k hF).2
   ·simp [World.cell?,hgr.block g hlt (by simp)]
  ·simp [World.cell?,hblocks g hlt hpe]
 have hpb:∀ b,p = some b → (p0 = some b ∨ b = w.heap.size):=by
  intro b hb
  rcases hstep with ⟨h,_⟩ | ⟨h,_⟩
  ·exact .inl (h ▸ hb)
  ·rw [h] at hb; exact .inr (Option.some.inj hb).symm
 have hplt:∀ b,p = some b → b < w'.heap.size:=by
  intro b hpb'
  rcases hown.2 with ⟨h,_⟩ | ⟨g,cur,fz,h,hh,_⟩
  ·rw [h] at hpb'; cases hpb'
  ·rw [h] at hpb'; cases hpb'; exact (Array.getElem?_eq_some_iff.1 hh).1
 have hlt:∀ b,(∃ k,(∃ t' ds,M' k t' ds) ∧ blkOf B k = some b) → b < w.heap.size:=by
  rintro b ⟨k,⟨t',ds,h⟩,hbk⟩
  exact (hb.boxes _ _ _ (hM _ _ _ h).1).lt hbk
 have hbel:BelowS w0.own w0.w.heap.size w w':=by
  have hall:∀ k,k < w0.w.heap.size → ¬ w0.own k → w'.heap[k]? = w.heap[k]?:=by
   intro k hk hs
   refine hblocks k (by omega) fun hpe=>?_
   rcases (hp0 k hpe).1 with h | h
   ·omega
   ·exact hs h
  rcases hstep with ⟨_,hgr,_⟩ | ⟨_,hgr⟩ <;> exact ⟨hgr.os,hgr.tape,hgr.output,hgr.size,hall⟩
 refine ⟨hb.newKey hg (.row m d enc l p n cap hB' ⟨hn,hgood.1,hgood.2,xs,hr.grow hg,hown,fun b hpb' j=>?_⟩) (fun b hbk=>?_) hM (fun b hbk=>?_) (fun g k hF=>?_) (fun g k hF=>?_) hbel henv,hg⟩
 ·constructor
  ·rintro (h | ⟨h1,_,h2⟩)
   ·rcases hpb b hpb' with h3 | h3
    ·have:=(hp0 b h3).2.2 j h; exact ⟨this.1,by omega⟩
    ·have:=hb.frz b j h; omega
   ·exact ⟨h1,h2⟩
  ·rintro ⟨h1,h2⟩; exact .inr ⟨h1,hpb',h2⟩
 ·rw [blkOf_row hB'] at hbk
  rcases hpb b hbk with h | h
  ·exact ⟨(hp0 b h).1,fun k hk _=>hno b h k hk⟩
  ·subst h; exact ⟨.inl hsz,fun k hk _ hbk=>by have:=hlt _ ⟨k,hk,hbk⟩; omega⟩
 ·have hl:=hlt b hbk
  have hne:p0 ≠ some b:=by
   obtain ⟨k,hk,hkb⟩:=hbk
   intro h; exact hno b h k hk hkb
  refine ⟨hblocks b hl hne,fun j hj=>?_⟩
  rcases hj with h | ⟨_,h,_⟩
  ·exact h
  ·rcases hpb b h with h | h
   ·exact absurd h hne
   ·omega
 ·rcases hF with h | ⟨_,h,_⟩
  ·have:=hb.frz g k h; omega
  ·exact hplt g h
 ·rcases hF with h | ⟨_,h,_⟩
  ·exact .inl h
  ·rcases hpb g h with h | h
   ·exact .inr (hp0 g h).1
   ·subst h; exact .inr (.inl hsz)
theorem Base.turn (hb:Base F0 w0 B F M w) {k b:Nat} {w':World} {M':Mem} (hkb:blkOf B k = some b) (hk:∃ t ds,M k t ds) (hnf:∀ j,¬ F b j) {cs:Array Value} (hw:w' = w.setRow b cs)
  (hM:∀ j t ds,M' j t ds → (∃ t ds,M j t ds) ∧ (j = k → Held F w' B k t ds) ∧ (j ≠ k → M j t ds)):Base F0 w0 B F M' w' ∧ Grow F F w w':=by
 subst hw
 obtain ⟨t0,ds0,hk0⟩:=hk
 have hn:=hb.new _ _ _ _ hk0 hkb
 have hg:Grow F F w (w.setRow b cs):=⟨fun _ _ h=>h,fun g j hF=>cell_setRow_other _ _ _ _ (fun e=>by simp only at e; subst e; exact hnf j hF)⟩
 refine ⟨⟨fun j t ds hl=>?_,fun j t ds b' hl hbk=>?_,fun i j c hi hj hBi hBj=>?_,fun g j hF=>?_,hb.more,hb.grow.trans hg,hb.below.trans ⟨rfl,rfl,rfl,by simp,fun i hi hs=>?_⟩,hb.env⟩,hg⟩
 ·obtain ⟨h1,h2,h3⟩:=hM _ _ _ hl
  by_cases hjk:j = k
  ·subst hjk; exact h2 rfl
  ·have hmj:=h3 hjk
   refine (hb.boxes _ _ _ hmj).grow hg rfl (fun _ _ _ h=>h) fun b' hbk=>⟨setRow_other _ _ _ _ fun e=>hjk ?_,fun _ h=>h⟩
   subst e
   exact hb.inj j k _ ⟨_,_,hmj⟩ ⟨_,_,hk0⟩ hbk hkb
 ·obtain ⟨⟨t1,ds1,h1⟩,_,_⟩:=hM _ _ _ hl
  exact hb.new _ _ _ _ h1 hbk
 ·obtain ⟨t1,d1,h1⟩:=hi
  obtain ⟨t2,d2,h2⟩:=hj
  exact hb.inj i j c (hM _ _ _ h1).1 (hM _ _ _ h2).1 hBi hBj
 ·have:=hb.frz g j hF; simp; omega
 ·refine setRow_other _ _ _ _ fun e=>?_
  subst e
  rcases hn with h | h
  ·omega
  ·exact hs h
theorem Base.store (hb:Base F0 w0 B F M w) {k off b t:Nat} {cells ds:List D} {vs us:List Value} (hB:B k = some (.box b)) (hkL:M k t ds) (hh:w.heap[b]? = some (.cells vs.toArray t (0,0)))
  (hu:RepL F w B cells us) (hfl:cells.all D.flat = true) :
  Base F0 w0 B F (memStore k off cells M) (w.setRow b (setVals vs off us).toArray) ∧ Grow F F w (w.setRow b (setVals vs off us).toArray):=by
 obtain ⟨vs',hr',hfl',hh',hn',hnf'⟩:=hb.box' hkL hB
 have hg:Grow F F w (w.setRow b (setVals vs off us).toArray):=⟨fun _ _ h=>h,fun g j hF=>cell_setRow_other _ _ _ _ (fun e=>by simp only at e; subst e; exact hnf' j hF)⟩
 refine hb.turn (blkOf_box hB) ⟨_,_,hkL⟩ hnf' rfl fun j t' es hl=>?_
 obtain ⟨y,hy,hx⟩:=hl
 refine ⟨⟨_,_,hy⟩,fun hjk=>?_,fun hjk=>by simp only [hjk,if_false] at hx; rw [hx]; exact hy⟩
 subst hjk
 obtain ⟨zs,hrc,hflc,hhc,hnc,hnfc⟩:=hb.box' hy hB
 rw [hh] at hhc
 simp only [Option.some.injEq,Obj.cells.injEq] at hhc
 obtain ⟨hv,ht,_⟩:=hhc
 have hv':vs = zs:=by simpa using hv
 subst hv'
 simp only [if_true] at hx
 subst hx
 refine .box _ b (setVals vs off us) hB ((RepL.sets hu off hrc).grow hg) ?_ ?_ hnfc
 ·unfold setCells
  simp only [List.all_append,Bool.and_eq_true]
  exact ⟨⟨List.all_eq_true.2 fun x hx=>List.all_eq_true.1 hflc x (List.mem_of_mem_take hx),hfl⟩,List.all_eq_true.2 fun x hx=>List.all_eq_true.1 hflc x (List.mem_of_mem_drop hx)⟩
 ·rw [setRow_heap _ _ _ _ _ _ hh,ht]
theorem set_flatMap {α:Type} {enc:α → List D} {z off:Nat} (hz:∀ x,(enc x).length = z) {cells:List D} (hoff:off + cells.length ≤ z) {x:α}:∀ (l:List α) (n:Nat) (y:α),l[n]? = some y → Weaks (setCells (enc y) off cells) (enc x) →
  Weaks (setCells (l.flatMap enc) (n * z + off) cells) ((l.set n x).flatMap enc)
 | [],n,y,hy,_=>by simp at hy
 | q :: l,0,y,hy,he=>by
  simp only [List.getElem?_cons_zero,Option.some.injEq] at hy
  subst hy
  have e:setCells ((q :: l).flatMap enc) (0 * z + off) cells = setCells (enc q) off cells ++ l.flatMap enc:=by
   simp only [List.flatMap_cons,Nat.zero_mul,Nat.zero_add]
   unfold setCells
   have h1:(enc q ++ l.flatMap enc).take off = (enc q).take off:=List.take_append_of_le_length (by rw [hz]; omega)
   have h2:(enc q ++ l.flatMap enc).drop (off + cells.length) = (enc q).drop (off + cells.length) ++ l.flatMap enc:=List.drop_append_of_le_length (by rw [hz]; omega)
   rw [h1,h2]; simp only [List.append_assoc]
  rw [e]
  simp only [List.set_cons_zero,List.flatMap_cons]
  exact he.append (.refl _)
 | q :: l,n + 1,y,hy,he=>by
  have e:setCells ((q :: l).flatMap enc) ((n + 1) * z + off) cells = enc q ++ setCells (l.flatMap enc) (n * z + off) cells:=by
   simp only [List.flatMap_cons]
   unfold setCells
   have e1:(n + 1) * z + off = (enc q).length + (n * z + off):=by rw [hz,Nat.add_mul]; omega
   rw [e1,List.take_length_add_append,Nat.add_assoc (enc q).length,List.drop_length_add_append]
   simp only [List.append_assoc]
  rw [e]
  simp only [List.set_cons_succ,List.flatMap_cons]
  exact (Weaks.refl _).append (set_flatMap hz hoff l n y (by simpa using hy) he)
def memRow (k t:Nat) (r:D) (M:Mem):Mem:=fun j t' ds=>(j = k ∧ t' = t ∧ ds = [r]) ∨ (j ≠ k ∧ M j t' ds)
theorem Base.upd (hb:Base F0 w0 B F M w) {k b off t:Nat} {n:Int} {α:Type} {d:α} {enc:α → List D} {l:List α} {x:α} {cells:List D} {us:List Value} {cur:Array Value} {nn cap:Nat} {fz:Nat × Nat} (hm:M k t [.rowc false d enc l])
  (hB:B k = some (.row (some b) nn cap)) (hh:w.heap[b]? = some (.cells cur t fz)) (hoff:off + cells.length ≤ (enc d).length) (h0:0 ≤ n) (hn:n < (l.length:Int))
  (hu:RepL F w B cells us) (hno:D.noOwns cells = true) (hx:Weaks (setCells (enc (l[n.toNat]?.getD d)) off cells) (enc x)) :
  Base F0 w0 B F (memRow k t (.rowc false d enc (l.set n.toNat x)) M) (w.setRow b (setVals cur.toList (n.toNat * (enc d).length + off) us).toArray) ∧ Grow F F w (w.setRow b (setVals cur.toList (n.toNat * (enc d).length + off) us).toArray):=by
 obtain ⟨p,n0,cap0,hB',hrow⟩:=hb.row' hm
 rw [hB] at hB'; cases hB'
 obtain ⟨hn0,hpos,hge,xs,hxs,hown,hfz⟩:=hrow
 have hnf:∀ j,¬ F b j:=fun j hj=>by have:=(hfz b rfl j).1 hj; simp at this
 have hg:Grow F F w (w.setRow b (setVals cur.toList (n.toNat * (enc d).length + off) us).toArray):=⟨fun _ _ h=>h,fun g j hF=>cell_setRow_other _ _ _ _ (fun e=>by simp only at e; subst e; exact hnf j hF)⟩
 have hlt:n.toNat < l.length:=by omega
 have hul:=RepL.length hu
 refine hb.turn (blkOf_row hB) ⟨_,_,hm⟩ hnf rfl fun j t' es hl=>?_
 rcases hl with ⟨rfl,rfl,rfl⟩ | ⟨hjk,hy⟩
 rotate_left
 ·exact ⟨⟨_,_,hy⟩,fun h=>absurd h hjk,fun _=>hy⟩
 refine ⟨⟨_,_,hm⟩,fun _=>?_,fun h=>absurd rfl h⟩
 rcases hown.2 with ⟨hp,_⟩ | ⟨g,cur',fz',hp,hh',hfr,hnc,hcm,hcs,htk⟩
 ·cases hp
 ·cases hp
  rw [hh] at hh'
  cases hh'
  have hle:n.toNat * (enc d).length + (enc d).length ≤ nn * (enc d).length:=by rw [← Nat.succ_mul]; exact Nat.mul_le_mul_right _ (by omega)
  have hcl:nn * (enc d).length ≤ cur.size:=by rw [hcs]; exact Nat.mul_le_mul_right _ hnc
  have hsl:(setVals cur.toList (n.toNat * (enc d).length + off) us).length = cur.size:=by
   unfold setVals; simp; omega
  refine .row false d enc _ (some b) nn cap hB ⟨by rw [List.length_set,hn0],hpos,hge,setVals xs (n.toNat * (enc d).length + off) us,?_,⟨?_,.inr ⟨b,_,fz,rfl,setRow_heap _ _ _ _ _ _ hh,?_,hnc,hcm,by simpa using hsl.trans hcs,?_⟩⟩,fun b' hb' j=>?_⟩
  ·have hx':Weaks (setCells (enc (l[n.toNat])) off cells) (enc x):=by rw [List.getElem?_eq_getElem hlt] at hx; exact hx
   exact (set_flatMap (fun x=>(hge x).1) hoff l n.toNat _ (List.getElem?_eq_getElem hlt) hx').rep ((RepL.sets (hu.bare hno) _ hxs).grow hg)
  ·have:=hown.1
   unfold setVals; simp; omega
  ·intro j hj; exact hfr j (by simpa [hsl] using hj)
  ·rw [← htk]
   unfold setVals
   simp only [List.toList_toArray]
   have e1:n.toNat * (enc d).length + off + us.length ≤ nn * (enc d).length:=by omega
   rw [List.take_append,List.take_append]
   have l1:(cur.toList.take (n.toNat * (enc d).length + off)).length = n.toNat * (enc d).length + off:=by simp; omega
   rw [l1,List.take_of_length_le (by rw [l1]; omega),List.take_of_length_le (l:=us) (by omega)]
   rw [List.take_take,List.length_append,l1,List.drop_take]
   rw [Nat.min_eq_left (by omega)]
  ·have hb2:b' = b:=by cases hb'; rfl
   subst hb2
   exact hfz b' rfl j
theorem Base.keep (hb:Base F0 w0 B F M w) {k t:Nat} {ds:List D} (hk:M k t ds) {F':Fz} (hF:∀ g j,F g j → F' g j) (hF':∀ g j,F' g j → F g j ∨ blkOf B k = some g) {M':Mem}
  (hM:∀ j t' es,M' j t' es → (∃ t es,M j t es) ∧ (j = k → Held F' w B j t' es) ∧ (j ≠ k → Held F w B j t' es)):Base F0 w0 B F' M' w ∧ Grow F F' w w:=by
 have hg:Grow F F' w w:=⟨hF,fun _ _ _=>rfl⟩
 refine ⟨⟨fun j t' es hl=>?_,fun j t' es b hl hbk=>?_,fun i j c hi hj hBi hBj=>?_,fun g j h=>?_,fun g j h=>?_,hb.grow.trans hg,hb.below,hb.env⟩,hg⟩
 ·obtain ⟨⟨t1,e1,h1⟩,h2,h3⟩:=hM _ _ _ hl
  by_cases hjk:j = k
  ·exact h2 hjk
  ·refine (h3 hjk).grow hg rfl (fun _ _ _ h=>h) fun b hbj=>⟨rfl,fun i hi=>?_⟩
   rcases hF' _ _ hi with h | h
   ·exact h
   ·exact absurd (hb.inj j k b ⟨_,_,h1⟩ ⟨_,_,hk⟩ hbj h) hjk
 ·obtain ⟨⟨t1,e1,h1⟩,_,_⟩:=hM _ _ _ hl
  exact hb.new _ _ _ _ h1 hbk
 ·obtain ⟨t1,d1,h1⟩:=hi
  obtain ⟨t2,d2,h2⟩:=hj
  exact hb.inj i j c (hM _ _ _ h1).1 (hM _ _ _ h2).1 hBi hBj
 ·rcases hF' _ _ h with h | h
  ·exact hb.frz _ _ h
  ·exact (hb.boxes _ _ _ hk).lt h
 ·rcases hF' _ _ h with h | h
  ·exact hb.more _ _ h
  ·exact .inr (hb.new _ _ _ _ hk h)
theorem Base.settleRow (hb:Base F0 w0 B F M w) {k t:Nat} {m:Bool} {α:Type} {d:α} {enc:α → List D} {l:List α} (hk:M k t [.rowc m d enc l]) :
  ∃ F',Base F0 w0 B F' (memRow k t (.rowc true d enc l) M) w ∧ Grow F F' w w:=by
 obtain ⟨p,n,cap,hB,hrow⟩:=hb.row' hk
 obtain ⟨hn,hpos,hge,xs,hxs,hown,hfz⟩:=hrow
 refine ⟨Frow F true p (n * (enc d).length),hb.keep hk (fun g j h=>.inl h) (fun g j h=>?_) fun j t' es hl=>?_⟩
 ·rcases h with h | ⟨_,h,_⟩
  ·exact .inl h
  ·exact .inr (by rw [blkOf_row hB,h])
 ·rcases hl with ⟨rfl,rfl,rfl⟩ | ⟨hjk,hy⟩
  ·refine ⟨⟨_,_,hk⟩,fun _=>.row true d enc l p n cap hB ⟨hn,hpos,hge,xs,hxs.grow ⟨fun _ _ h=>.inl h,fun _ _ _=>rfl⟩,hown,fun b hb' i=>⟨?_,fun ⟨h1,h2⟩=>.inr ⟨h1,hb',h2⟩⟩⟩,fun h=>absurd rfl h⟩
   rintro (h | ⟨h1,_,h2⟩)
   ·exact ⟨rfl,((hfz b hb' i).1 h).2⟩
   ·exact ⟨h1,h2⟩
  ·exact ⟨⟨_,_,hy⟩,fun h=>absurd h hjk,fun _=>hb.boxes _ _ _ hy⟩
theorem toEl_flat {k:Nat} {cs:List D}:∀ d r,toEl k cs d = some r → r.flat = true:=by
 intro d r h
 cases d <;> simp only [toEl] at h <;> first | (cases h; done) | (split at h <;> cases h <;> rfl)
theorem toEl_val {k:Nat} {cs:List D}:∀ d v,toEl k cs d ≠ some (.val v):=by
 intro d v h
 cases d <;> simp only [toEl] at h <;> first | (cases h; done) | (split at h <;> cases h)
theorem subs_one {s:D → Option D} {m:Bool} {α:Type} {d:α} {enc:α → List D} {l:List α}:D.subs s [.rowc m d enc l] = [.rowc m d enc l]:=rfl
theorem Base.ground (hb:Base F0 w0 B F M w) {L:Boxes} (hL:RowsIn M L) {k t:Nat} {ds:List D} (hk:M k t ds) (hno:D.noOwns (D.seals L ds) = true) (hfl0:ds.all D.flat = true) :
  ∃ F',Base F0 w0 B F' (fun j t' es=>∃ es',j ≠ k ∧ M j t' es' ∧ es = D.subs (toEl k (D.seals L ds)) es') w ∧ Grow F F' w w ∧ SubOK F' w B B (toEl k (D.seals L ds)):=by
 have hh:=hb.boxes _ _ _ hk
 cases hh with
 | row m d enc l p n cap hB h=>simp [D.flat] at hfl0
 | map kk ag d enc l b hB h=>simp [D.flat] at hfl0
 | obj b o S hB=>simp [D.flat] at hfl0
 | box _ b vs hB hr hfl hh hnf =>
  have hcs:=(hr.sealed hb hL).bare (B':=NB) hno
  have hF:∀ g j,F g j → F g j ∨ (g = b ∧ j < vs.length):=fun g j h=>.inl h
  have hgr:Grow F (fun g j=>F g j ∨ (g = b ∧ j < vs.length)) w w:=⟨hF,fun _ _ _=>rfl⟩
  have hsub:SubOK (fun g j=>F g j ∨ (g = b ∧ j < vs.length)) w B B (toEl k (D.seals L ds)):=by
   refine ⟨fun d r v h hv=>?_,fun _ _ _=>rfl,fun _ _=>rfl,fun _ _=>rfl,fun _ _=>rfl,fun _ _ _ _ _=>rfl,fun _ _=>rfl⟩
   cases d <;> simp only [toEl] at h <;> first | (cases h; done) | skip
   ·rename_i j off
    split at h
    ·rename_i hjk
     subst hjk
     cases h
     cases hv with
     | own _ _ b' hB' =>
      rw [hB] at hB'; cases hB'
      refine .el _ (vs.drop off) b off ((hcs.grow hgr).drop off) fun i hi=>?_
      have hi':off + i < vs.length:=by simp at hi; omega
      refine ⟨.inr ⟨rfl,hi'⟩,?_⟩
      rw [cell_block hh]
      simp
    ·cases h
   ·rename_i j
    split at h
    ·cases h; cases hv; rename_i hv; rcases hv with rfl | rfl <;> exact .hole _ rfl
    ·cases h
   ·rename_i j
    split at h
    ·cases h; cases hv <;> exact .hole _ rfl
    ·cases h
   ·rename_i j
    split at h
    ·cases h; cases hv <;> exact .hole _ rfl
    ·cases h
   ·rename_i j
    split at h
    ·cases h; cases hv <;> exact .hole _ rfl
    ·cases h
   ·rename_i j i z off
    split at h
    ·cases h; cases hv <;> exact .hole _ rfl
    ·cases h
  have hsub0:∀ es us,RepL F w B es us → RepL (fun g j=>F g j ∨ (g = b ∧ j < vs.length)) w B (D.subs (toEl k (D.seals L ds)) es) us:=fun es us h=>(h.grow hgr).sub hsub
  refine ⟨fun g j=>F g j ∨ (g = b ∧ j < vs.length),?_,hgr,hsub⟩
  have hblk:∀ g j,(F g j ∨ (g = b ∧ j < vs.length)) → F g j ∨ blkOf B k = some g:=by
   rintro g j (h | ⟨rfl,_⟩)
   ·exact .inl h
   ·exact .inr (blkOf_box hB)
  have hkk:M k t ds:=hk
  refine ⟨fun j t' es hl=>?_,fun j t' es c hl hbk=>?_,fun i j c hi hj hBi hBj=>?_,fun g j h=>?_,fun g j h=>?_,hb.grow.trans hgr,hb.below,hb.env⟩
  ·obtain ⟨es',hjk,hm,rfl⟩:=hl
   have hold:=hb.boxes _ _ _ hm
   have hkeep:∀ c,blkOf B j = some c → w.heap[c]? = w.heap[c]? ∧ ∀ i,(F c i ∨ (c = b ∧ i < vs.length)) → F c i:=by
    intro c hc
    refine ⟨rfl,fun i hi=>?_⟩
    rcases hblk _ _ hi with h | h
    ·exact h
    ·exact absurd (hb.inj j k c ⟨_,_,hm⟩ ⟨_,_,hk⟩ hc h) hjk
   cases hold with
   | box _ c us hB' hr' hfl' hh' hnf'=>exact .box _ c us hB' (hsub0 _ _ hr') (subs_flat toEl_flat hfl') hh' fun i hi=>hnf' i ((hkeep c (blkOf_box hB')).2 i hi)
   | row m d enc l p n cap hB' h=>rw [subs_one]; exact .row m d enc l p n cap hB' (h.grow hgr fun c hc=>hkeep c (by rw [blkOf_row hB',hc]))
   | map kk ag d enc l c hB' h=>exact .map kk ag d enc l c hB' (h.grow hgr (hkeep c (blkOf_map hB')))
   | obj c o S hB' h2 h3 h4 h5=>exact .obj c o S hB' h2 (fun i hi=>h3 i ((hkeep c (blkOf_map hB')).2 i hi)) (h5 _ _ _ _ hgr h4) h5
  ·obtain ⟨es',hjk,hm,rfl⟩:=hl
   exact hb.new _ _ _ _ hm hbk
  ·obtain ⟨t1,d1,_,_,h1,_⟩:=hi
   obtain ⟨t2,d2,_,_,h2,_⟩:=hj
   exact hb.inj i j c ⟨_,_,h1⟩ ⟨_,_,h2⟩ hBi hBj
  ·rcases hblk _ _ h with h | h
   ·exact hb.frz _ _ h
   ·exact (hb.boxes _ _ _ hk).lt h
  ·rcases hblk _ _ h with h | h
   ·exact hb.more _ _ h
   ·exact .inr (hb.new _ _ _ _ hk h)
theorem wp_val {o:Oper} {d:D} {K:Act → World → Prop} (h:OutOK P F w B M a o (.val d)) (hK:∀ v,Rep F w B d v → K (a.put o.dst v) w):o.wp P a w K Q:=by
 obtain ⟨v,hrun,hr⟩:=h
 unfold Oper.wp
 rw [hrun]
 exact hK v hr
theorem wp_call {o:Oper} {f:Nat} {args:List D} {r:D} {K:Act → World → Prop} (h:OutOK P F w B M a o (.call f args)) (hb:Base F0 w0 B F M w) (hn:D.noOwns args = true) (hc:CX P f args r)
  (hK:∀ v w' F',Base F0 w0 B F' M w' → Grow F F' w w' → Rep F' w' B r v → K (a.put o.dst v) w'):o.wp P a w K Q:=by
 obtain ⟨vs,hr,hrun⟩:=h
 unfold Oper.wp
 rw [hrun]
 rcases hc with ⟨hf,hcalls⟩ | hext
 rotate_left
 ·obtain ⟨v,h1,h2⟩:=hext F w B vs hr
  rw [h1]
  exact hK v w F hb (Grow.refl _ _) (h2.lift fun _=>rfl)
 rw [run_callFunc hf]
 refine (hcalls F w vs hb.shp hb.frz (hr.bare hn)).mono ?_
 rintro e w' ⟨v,rfl,hrep,hbel⟩
 obtain ⟨h1,h2⟩:=hb.callee hbel
 exact hK v w' _ h1 h2 (hrep.lift fun _=>rfl)
theorem wp_fresh {o:Oper} {e:Nat} {m:Bool} {spec:D → Prop} {r:D} {K:Act → World → Prop} (h:OutOK P F w B M a o (.row e m none spec)) (hb:Base F0 w0 B F M w) (hs:spec r) (hgood:GoodR r)
  (hK:∀ v w' F',Base F0 w0 B F' M w' → Grow F F' w w' → Rep F' w' B r v → K (a.put o.dst v) w'):o.wp P a w K Q:=by
 cases r <;> first | (cases hgood; done) | skip
 rename_i α d enc l
 obtain ⟨p,n,cap,w',xs,p0,pre,v,hrun,hv,hn,hr,hown,hstep,hpre,hp0⟩:=h α d enc l hs hgood
 simp only at hp0
 subst hp0
 unfold Oper.wp
 rw [hrun]
 have hsz:=hb.below.size
 have hgr:w.grownBy w' none:=by rcases hstep with ⟨_,h,_⟩ | ⟨_,h⟩ <;> exact h
 have hp:∀ b,p = some b → b = w.heap.size:=by
  intro b hb'
  rcases hstep with ⟨h,_⟩ | ⟨h,_⟩ <;> rw [h] at hb' <;> cases hb'
  rfl
 have hblocks:∀ b,b < w.heap.size → w'.heap[b]? = w.heap[b]?:=fun b hlt=>hgr.block b hlt (by simp)
 have hg:Grow F (Frow F true p (n * (enc d).length)) w w':=⟨fun _ _ h=>.inl h,fun g k hF=>by simp [World.cell?,hblocks g (hb.frz g k hF)]⟩
 have hplt:∀ b,p = some b → b < w'.heap.size:=by
  intro b hpb'
  rcases hown.2 with ⟨h,_⟩ | ⟨g,cur,fz,h,hh,_⟩
  ·rw [h] at hpb'; cases hpb'
  ·rw [h] at hpb'; cases hpb'; exact (Array.getElem?_eq_some_iff.1 hh).1
 refine hK _ w' (Frow F true p (n * (enc d).length)) ⟨fun k t ds hl=>?_,hb.new,hb.inj,fun g k hF=>?_,fun g k hF=>?_,hb.grow.trans hg,hb.below.trans ⟨hgr.os,hgr.tape,hgr.output,hgr.size,fun k hk _=>hblocks k (by omega)⟩,hb.env⟩ hg ?_
 ·have hh:=hb.boxes _ _ _ hl
  refine hh.grow hg rfl (fun _ _ _ h=>h) fun b hbk=>?_
  have hlt:=hh.lt hbk
  refine ⟨hblocks b hlt,fun j hj=>?_⟩
  rcases hj with hj | ⟨_,hj,_⟩
  ·exact hj
  ·have:=hp b hj; omega
 ·rcases hF with h | ⟨_,h,_⟩
  ·have:=hb.frz g k h; have:=hgr.size; omega
  ·exact hplt g h
 ·rcases hF with h | ⟨_,h,_⟩
  ·exact hb.more g k h
  ·have:=hp g h; exact .inr (.inl (by omega))
 ·have hrow:RowOK (Frow F true p (n * (enc d).length)) w' p n cap e true d enc l:=by
   refine ⟨hn,hgood.1,hgood.2,xs,hr.grow hg,hown,fun b hb' j=>⟨?_,fun ⟨h1,h2⟩=>.inr ⟨h1,hb',h2⟩⟩⟩
   rintro (h | ⟨h1,_,h2⟩)
   ·have:=hb.frz b j h; have:=hp b hb'; omega
   ·exact ⟨h1,h2⟩
  exact hrow.recsV hv
theorem wp_row {o:Oper} {t e:Nat} {m:Bool} {old:Option Nat} {spec:D → Prop} {α:Type} {d:α} {enc:α → List D} {l:List α} {K:Act → World → Prop} (h:OutOK P F w B M a o (.row e m old spec)) (hb:Base F0 w0 B F M w)
  (hs:spec (.recs d enc l)) (hgood:GoodR (.recs d enc l)) {M':Mem} (ht:t < LIM) (hold:∀ k,old = some k → ∃ (tt:Nat) (α:Type) (d:α) (enc:α → List D) (l:List α),M k tt [.rowc m d enc l])
  (hM:∀ k t' ds,M' k t' ds → M k t' ds ∧ k ≠ t ∧ some k ≠ old ∧ D.namess t ds = false)
  (hK:∀ v w' F' r,Base F0 w0 (setB B t r) F' (memBox t e [.rowc m d enc l] M') w' → Grow F F' w w' → Rep F' w' (setB B t r) (.row t) v → K (a.put o.dst v) w'):o.wp P a w K Q:=by
 obtain ⟨p,n,cap,w',xs,p0,pre,v,hrun,hv,hn,hr,hown,hstep,hpre,hp0⟩:=h α d enc l hs hgood
 unfold Oper.wp
 rw [hrun]
 have hbase:=hb.row (t:=t) (e:=e) (m:=m) hn hr hgood hown hstep hpre (fun b hb'=>?_) (B':=setB B t (.row p n cap)) (setB_self _ _ _) (fun k hk=>setB_ne _ _ _ _ (by omega)) (M':=M')
  (fun k t' ds hm=>⟨(hM _ _ _ hm).1,(hM _ _ _ hm).2.1,setB_ne _ _ _ _ (hM _ _ _ hm).2.1,fun F w vs hr=>hr.rebox t (setB_ne _ _ _) (hM _ _ _ hm).2.2.2⟩) (fun b hb' k hk hbk=>?_)
 ·exact hK _ w' _ _ hbase.1 hbase.2 (.row_of (setB_self _ _ _) hv)
 ·cases old with
  | none=>simp only at hp0; rw [hp0] at hb'; cases hb'
  | some k =>
   obtain ⟨n0,cap0,hB,hfr⟩:=hp0
   obtain ⟨tt,α',d',enc',l',hm⟩:=hold k rfl
   have hbk:blkOf B k = some b:=by rw [blkOf_row hB,hb']
   refine ⟨hb.new _ _ _ _ hm hbk,(hb.boxes _ _ _ hm).lt hbk,fun j hj=>⟨?_,hfr b hb' j hj⟩⟩
   obtain ⟨p1,n1,c1,hB1,hrow⟩:=hb.row' hm
   rw [hB] at hB1; cases hB1
   obtain ⟨_,_,_,_,_,_,h6⟩:=hrow
   exact ((h6 b hb' j).1 hj).1
 ·cases old with
  | none=>simp only at hp0; rw [hp0] at hb'; cases hb'
  | some k0 =>
   obtain ⟨n0,cap0,hB,hfr⟩:=hp0
   obtain ⟨tt,α',d',enc',l',hm⟩:=hold k0 rfl
   obtain ⟨t',ds,hk'⟩:=hk
   have:=hb.inj k k0 b ⟨_,_,(hM _ _ _ hk').1⟩ ⟨_,_,hm⟩ hbk (by rw [blkOf_row hB,hb'])
   exact (hM _ _ _ hk').2.2.1 (by rw [this])
theorem wp_upd {o:Oper} {k off:Nat} {n:Int} {z t:Nat} {α:Type} {d:α} {enc:α → List D} {l:List α} {x:α} {cells:List D} {K:Act → World → Prop} (h:OutOK P F w B M a o (.upd k n z off cells)) (hb:Base F0 w0 B F M w)
  (hm:M k t [.rowc false d enc l]) (hz:z = (enc d).length) (h0:0 ≤ n) (hn:n < (l.length:Int)) (hfl:cells.all D.flat = true) (hno:D.noOwns cells = true) (hx:Weaks (setCells (enc (l[n.toNat]?.getD d)) off cells) (enc x))
  (hK:∀ w',Base F0 w0 B F (memRow k t (.rowc false d enc (l.set n.toNat x)) M) w' → Grow F F w w' → K (a.put o.dst undef) w'):o.wp P a w K Q:=by
 obtain ⟨us,hu,hall⟩:=h
 obtain ⟨b,nn,cap,cur,fz,hB,hh,hoff,hrun⟩:=hall t α d enc l hm hz h0 hn hfl
 subst hz
 unfold Oper.wp
 rw [hrun]
 obtain ⟨h1,h2⟩:=hb.upd hm hB hh hoff h0 hn hu hno hx
 exact hK _ h1 h2
theorem wp_known {o:Oper} {spec:D → Prop} {d:D} {K:Act → World → Prop} (h:OutOK P F w B M a o (.known spec)) (hs:spec d) (hK:∀ v,Rep F w B d v → K (a.put o.dst v) w):o.wp P a w K Q:=by
 obtain ⟨v,hrun,hr⟩:=h d hs
 unfold Oper.wp
 rw [hrun]
 exact hK v hr
theorem wp_box {o:Oper} {t ty:Nat} {cells:List D} {K:Act → World → Prop} (h:OutOK P F w B M a o (.box ty cells)) (hb:Base F0 w0 B F M w) (hfl:cells.all D.flat = true) {B':Env} (hB':B' t = some (.box w.heap.size)) (henv:∀ k,LIM ≤ k → B' k = B k) {M':Mem}
  (hcells:∀ F w vs,RepL F w B cells vs → RepL F w B' cells vs)
  (hM:∀ k t' ds,M' k t' ds → M k t' ds ∧ k ≠ t ∧ B' k = B k ∧ ∀ F w vs,RepL F w B ds vs → RepL F w B' ds vs)
  (hK:∀ w',Base F0 w0 B' F (memBox t ty cells M') w' → Grow F F w w' → K (a.put o.dst (.pointer (some ⟨w.heap.size,0,none⟩))) w'):o.wp P a w K Q:=by
 obtain ⟨vs,hr,hrun⟩:=h
 unfold Oper.wp
 rw [hrun]
 obtain ⟨h1,h2⟩:=hb.box hr hfl hB' henv hcells hM
 exact hK _ h1 h2
theorem wp_store {o:Oper} {k off:Nat} {cells:List D} {K:Act → World → Prop} (h:OutOK P F w B M a o (.store k off cells)) (hb:Base F0 w0 B F M w) (hfl:cells.all D.flat = true)
  (hK:∀ w',Base F0 w0 B F (memStore k off cells M) w' → Grow F F w w' → K (a.put o.dst undef) w'):o.wp P a w K Q:=by
 obtain ⟨b,t,ds,vs,us,hB,hl,hr,hh,hu,hlen,hrun⟩:=h
 unfold Oper.wp
 rw [hrun hfl]
 obtain ⟨h1,h2⟩:=hb.store (off:=off) hB hl hh hu hfl
 exact hK _ h1 h2
theorem Base.sub {M':Mem} (hb:Base F0 w0 B F M w) (h:∀ k t ds,M' k t ds → M k t ds):Base F0 w0 B F M' w :=
 ⟨fun k t ds hl=>hb.boxes k t ds (h _ _ _ hl),fun k t ds b hl=>hb.new k t ds b (h _ _ _ hl),fun i j b hi hj=>hb.inj i j b (hi.imp fun _ h1=>h1.imp fun _ hx=>h _ _ _ hx) (hj.imp fun _ h1=>h1.imp fun _ hx=>h _ _ _ hx),hb.frz,hb.more,hb.grow,hb.below,hb.env⟩
theorem memL_store {k off:Nat} {cells:List D} {L:Boxes} {j t:Nat} {ds:List D} (h:memL (storeBox k off cells L) j t ds):memStore k off cells (memL L) j t ds:=by
 unfold memL storeBox at h
 obtain ⟨y,hy,he⟩:=List.mem_map.1 h
 obtain ⟨j',y1,y2⟩:=y
 simp only at he
 split at he
 ·cases he; exact ⟨y2,hy,by simp [*]⟩
 ·cases he; exact ⟨_,hy,by simp [*]⟩
def EntOK (F:Fz) (w:World) (B:Env) (tab:List (Nat × Bool)) (a:Act) (e:Ent):Prop :=
 (holds tab e.cnd = true → ∃ v,a.tmps[e.slot]? = some v ∧ Rep F w B e.d v) ∧ (holds tab e.cnd = false → a.tmps[e.slot]? = some undef)
theorem EntOK.grow {F':Fz} {w':World} {tab} {e:Ent} (h:EntOK F w B tab a e) (g:Grow F F' w w'):EntOK F' w' B tab a e :=
 ⟨fun hh=>let ⟨v,h1,h2⟩:=h.1 hh; ⟨v,h1,h2.grow g⟩,h.2⟩
structure InvR {P:Program} (nt:Nat) (ops:List Oper) (F0:Fz) (w0:Pt P) (B:Env) (F:Fz) (s:ES) (S:Nat → Prop) (a:Act) (w:World):Prop where
 base:Base F0 w0 B F (memL s.L) w
 defers:a.defers = w0.defs
 size:a.tmps.size = nt
 ents:∀ e ∈ s.K,EntOK F w B s.tab a e
 keys:∀ e ∈ s.K,∀ x ∈ e.cnd,S x.1
 srcs:∀ e ∈ s.K,e.src = 0 ∨ S (e.src - 1)
 dsts:∀ e ∈ s.K,∀ j,e.src = j + 1 → ((ops[j]?).bind (·.dst)) = some e.slot ∧ ∀ b,e.d = .val (.bool b) → tv s.tab j = b
theorem tv_cons {tab:List (Nat × Bool)} {i j:Nat} {b:Bool} (h:j ≠ i):tv ((i,b) :: tab) j = tv tab j:=by
 unfold tv
 rw [List.lookup_cons]
 have:(j == i) = false:=by simpa using h
 simp [this]
theorem tv_self {tab:List (Nat × Bool)} {i:Nat} {b:Bool}:tv ((i,b) :: tab) i = b:=by simp [tv]
theorem holds_cons (tab:List (Nat × Bool)) (x:Nat × Bool) (c:Cnd):holds tab (x :: c) = ((tv tab x.1 == x.2) && holds tab c):=by
 cases c with
 | nil=>simp [holds]
 | cons y c=>rfl
theorem holds_congr {tab tab':List (Nat × Bool)}:∀ {c:Cnd},(∀ x ∈ c,tv tab' x.1 = tv tab x.1) → holds tab' c = holds tab c
 | [],_=>rfl
 | x :: c,h=>by
  rw [holds_cons,holds_cons,h x (by simp),holds_congr (fun y hy=>h y (by simp [hy]))]
theorem holds_all {tab:List (Nat × Bool)}:∀ {c:Cnd},holds tab c = true ↔ ∀ x ∈ c,tv tab x.1 = x.2
 | []=>by simp [holds]
 | x :: c=>by
  rw [holds_cons,Bool.and_eq_true,holds_all]
  simp
theorem holds_le {tab:List (Nat × Bool)} {c c':Cnd} (h:c.le c' = true) (h':holds tab c' = true):holds tab c = true:=by
 rw [holds_all] at *
 intro x hx
 unfold Cnd.le at h
 have:=List.all_eq_true.1 h x hx
 obtain ⟨y,hy,he⟩:=List.any_eq_true.1 this
 simp only [Bool.and_eq_true,beq_iff_eq] at he
 rw [he.1,he.2]
 exact h' y hy
theorem addTab_tv {i j:Nat} {d:D} {tab} (h:j ≠ i):tv (addTab i d tab) j = tv tab j:=by
 unfold addTab; split
 ·exact tv_cons h
 ·rfl
theorem addTab_self {i:Nat} {b:Bool} {tab}:tv (addTab i (.val (.bool b)) tab) i = b:=by simp [addTab,tv_self]
theorem mem_putEnt {e x:Ent} {K:List Ent} (h:x ∈ putEnt e K):x = e ∨ (x ∈ K ∧ x.slot ≠ e.slot):=by
 unfold putEnt at h
 rcases List.mem_cons.1 h with h | h
 ·exact .inl h
 ·obtain ⟨h1,h2⟩:=List.mem_filter.1 h
  exact .inr ⟨h1,by simpa using h2⟩
theorem put_same {a:Act} {t:Nat} {v:Value} (h:t < a.tmps.size):(a.put (some t) v).tmps[t]? = some v:=by
 simp [Act.put,h]
theorem put_other {a:Act} {t u:Nat} {v:Value} (h:u ≠ t):(a.put (some t) v).tmps[u]? = a.tmps[u]?:=by
 simp only [Act.put]
 rw [Array.getElem?_setIfInBounds_ne (by omega)]
theorem put_size {a:Act} {t:Option Nat} {v:Value}:(a.put t v).tmps.size = a.tmps.size:=by cases t <;> simp [Act.put]
theorem put_defers {a:Act} {t:Option Nat} {v:Value}:(a.put t v).defers = a.defers:=by cases t <;> rfl
theorem find_mem {K:List Ent} {t:Nat} {e:Ent} (h:findSlot K t = some e):e ∈ K ∧ e.slot = t:=by
 unfold findSlot at h
 exact ⟨List.mem_of_find?_eq_some h,by simpa using List.find?_some h⟩
theorem eval_tmp {a:Act} {t:Nat} {v:Value} (h:a.tmps[t]? = some v):a.eval (.tmp t) = v:=by
 simp [Act.eval,Array.getD_eq_getD_getElem?,h]
theorem getOp_ok {tab} {K:List Ent} (hE:∀ e ∈ K,EntOK F w B tab a e) {g:Cnd} (hg:holds tab g = true):GetOK F w B a (getOp K g):=by
 intro x d h
 cases x with
 | tmp t =>
  simp only [getOp] at h
  split at h
  ·rename_i e he
   split at h
   ·rename_i hle
    cases h
    obtain ⟨hm,rfl⟩:=find_mem he
    obtain ⟨v,h1,h2⟩:=(hE e hm).1 (holds_le hle hg)
    rw [eval_tmp h1]; exact h2
   ·cases h
  ·cases h
 | const v =>
  simp only [getOp] at h
  unfold constD at h
  split at h
  ·cases h; exact Rep.ofValue v (by assumption)
  ·split at h
   ·rename_i vs _
    split at h
    ·rename_i hall
     cases h
     exact Rep.agg _ _ (ofValues (F:=F) (w:=w) (B:=B) vs.toList hall)
    ·cases h
   ·cases h
 | global g=>simp [getOp] at h
 | func f =>
  simp only [getOp] at h
  cases h
  exact .fn f [] [] .nil
theorem guard_ok {nt:Nat} {ops:List Oper} {s:ES} {S:Nat → Prop} {g:Cnd} {gd:Option (Nat × Bool)} (hi:InvR nt ops F0 w0 B F s S a w) (h:guardCnd ops s.K gd = some g) {o:Oper} (ho:o.guard = gd) :
  Region.wanted o (yielded ops.toArray a.tmps) = holds s.tab g ∧ ∀ x ∈ g,S x.1:=by
 unfold guardCnd at h
 split at h
 ·cases h
  exact ⟨by simp [Region.wanted,ho,holds],by simp⟩
 ·rename_i j want
  split at h
  ·cases h
  ·rename_i t ht
   split at h
   ·cases h
   ·rename_i e he
    split at h
    ·rename_i hsrc
     obtain ⟨hm,hslot⟩:=find_mem he
     obtain ⟨hd1,hd2⟩:=hi.dsts e hm j hsrc
     split at h
     ·rename_i b hb
      cases h
      refine ⟨?_,fun x hx=>?_⟩
      ·rw [holds_cons]
       simp only [Region.wanted,ho]
       have hy:yielded ops.toArray a.tmps j = match a.tmps[t]? with | some (.bool b)=>some b | _=>none:=by
        unfold yielded
        simp only [List.getElem?_toArray,ht]
        rfl
       rw [hd2 b hb]
       cases hc:holds s.tab e.cnd with
       | true =>
        obtain ⟨v,h1,h2⟩:=(hi.ents e hm).1 hc
        rw [hb] at h2; cases h2
        rw [hy,← hslot,h1]
        cases b <;> cases want <;> rfl
       | false =>
        have h1:=(hi.ents e hm).2 hc
        rw [hy,← hslot,h1]
        simp [undef]
      ·rcases List.mem_cons.1 hx with rfl | hx
       ·have:=hi.srcs e hm
        rw [hsrc] at this
        simpa using this
       ·exact hi.keys e hm x hx
     ·cases h
    ·cases h
end
end Go.Proofs.YtibgdilkodjojaaGreatDoor.RX
