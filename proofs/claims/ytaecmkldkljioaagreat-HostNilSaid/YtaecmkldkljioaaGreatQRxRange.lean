import Derived.Test.YtaecmkldkljioaaGreatQRxGen
import Derived.Maps.RangeRun
set_option linter.all false
namespace Go.Proofs.YtaecmkldkljioaaGreat.RX
open Go.RowKit Go.ChangeMaps
def mapS {α:Type} (kk:Option IntKind) (ag:Bool) (enc:α → List D) (l:List (MK × α)) (es:Array MapEntry) (clock:Nat):Fz → World → Prop:=fun F w=>GoodM ag enc ∧ MapKept.Stamped es clock ∧ EntsOK F w kk ag enc l es.toList
theorem mapS_mono {α:Type} {kk:Option IntKind} {ag:Bool} {enc:α → List D} {l:List (MK × α)} {es:Array MapEntry} {clock:Nat}:∀ F F' w w',Grow F F' w w' → mapS kk ag enc l es clock F w → mapS kk ag enc l es clock F' w' :=
 fun _ _ _ _ g ⟨h1,h2,h3⟩=>⟨h1,h2,h3.grow g⟩
abbrev lockD {α:Type} (b:Nat) (es:Array MapEntry) (clock:Nat) (kk:Option IntKind) (ag:Bool) (enc:α → List D) (l:List (MK × α)):D:=.objc b (.map es clock) (mapS kk ag enc l es clock)
abbrev iterD (r b clock:Nat) (seen:Array Nat):D:=.objc r (.mapIter (some b) clock seen clock) (fun _ _=>True)
def roundAll {β X:Type} [DecidableEq X] (round:β → Option (Unit ⊕ X)):List β → Option (Unit ⊕ X)
 | []=>some (.inl ())
 | e :: l=>(round e).bind fun s=>(roundAll round l).bind fun s'=>match s,s' with
  | .inl _,s'=>some s'
  | .inr x,.inl _=>some (.inr x)
  | .inr x,.inr y=>if x = y then some (.inr x) else none
theorem roundAll_spec {β X:Type} [DecidableEq X] {round:β → Option (Unit ⊕ X)}:∀ {l:List β} {res:Unit ⊕ X},roundAll round l = some res →
  (∀ e ∈ l,∃ s,round e = some s ∧ ∀ y,s = .inr y → res = .inr y) ∧ ((∀ e ∈ l,round e = some (.inl ())) → res = .inl ())
 | [],res,h=>by
  cases h
  exact ⟨fun e he=>by simp at he,fun _=>rfl⟩
 | e :: l,res,h=>by
  unfold roundAll at h
  obtain ⟨s,hs,h⟩:=Option.bind_eq_some_iff.1 h
  obtain ⟨s',hs',h⟩:=Option.bind_eq_some_iff.1 h
  obtain ⟨h1,h2⟩:=roundAll_spec hs'
  cases s with
  | inl u =>
   simp only [Option.some.injEq] at h
   subst h
   refine ⟨fun e' he=>?_,fun hall=>h2 fun e' he=>hall e' (List.mem_cons_of_mem _ he)⟩
   rcases List.mem_cons.1 he with rfl | he
   ·exact ⟨_,hs,fun y hy=>by cases hy⟩
   ·exact h1 e' he
  | inr x =>
   have hres:res = .inr x ∧ ∀ y,s' = .inr y → x = y:=by
    cases s' with
    | inl _ =>
     simp only [Option.some.injEq] at h
     exact ⟨h.symm,fun y hy=>by cases hy⟩
    | inr y =>
     simp only at h
     split at h
     ·rename_i hxy
      subst hxy
      exact ⟨by simpa using h.symm,fun z hz=>by cases hz; rfl⟩
     ·cases h
   obtain ⟨rfl,hxy⟩:=hres
   refine ⟨fun e' he=>?_,fun hall=>?_⟩
   ·rcases List.mem_cons.1 he with rfl | he
    ·exact ⟨_,hs,fun y hy=>by cases hy; rfl⟩
    ·obtain ⟨s2,h3,h4⟩:=h1 e' he
     exact ⟨s2,h3,fun y hy=>by rw [hxy y (h4 y hy)]⟩
   ·have:=hall e List.mem_cons_self
    rw [hs] at this; cases this
section
variable {P:Program} {Γ:Nat → Option TI} {nt:Nat} {F0:Fz} {w0:Pt P} {K K':List (Nat × D)} {L L':Boxes} {Q:Exit → Act → World → Prop}
theorem Base.obj' {B:Env} {F:Fz} {M:Mem} {w:World} (hb:Base F0 w0 B F M w) {k t b:Nat} {o:Obj} {S:Fz → World → Prop} (hl:M k t [.objc b o S]):B k = some (.map b) ∧ w0.fresh b ∧ w.heap[b]? = some o ∧ (∀ j,¬ F b j) ∧ S F w ∧ ∀ F F' w w',Grow F F' w w' → S F w → S F' w':=by
 have hh:=hb.boxes _ _ _ hl
 generalize hds:[D.objc b o S] = ds at hh
 cases hh with
 | box _ b' vs hB' hr hfl hh hnf=>subst hds; simp [D.flat] at hfl
 | row m' d' enc' l' p n cap hB' h=>cases hds
 | map kk' ag' d' enc' l' b hB' h=>cases hds
 | obj b' o' S' hB hh hnf hS hm =>
  cases hds
  exact ⟨hB,hb.new _ _ _ b hl (blkOf_map hB),hh,hnf,hS,hm⟩
theorem Base.oset {B:Env} {F:Fz} {M:Mem} {w:World} (hb:Base F0 w0 B F M w) {k t b:Nat} {o o':Obj} {S S':Fz → World → Prop} (hk:M k t [.objc b o S]) {w':World} (hs:MapSet w w' b) (hnew:w'.heap[b]? = some o') (hS':S' F w') (hm':∀ F F' w w',Grow F F' w w' → S' F w → S' F' w') :
  Base F0 w0 B F (memRow k t (.objc b o' S') M) w' ∧ Grow F F w w':=by
 obtain ⟨hB,hfr,hh,hnf,hS,hm⟩:=hb.obj' hk
 have hkb:=blkOf_map hB
 have hg:Grow F F w w':=⟨fun _ _ h=>h,fun g j hF=>by
  have hne:g ≠ b:=fun e=>by subst e; exact hnf j hF
  simp [World.cell?,hs.block g hne]⟩
 have hback:∀ j t' ds,memRow k t (.objc b o' S') M j t' ds → ∃ t' ds,M j t' ds:=by
  rintro j t' ds (⟨rfl,_,_⟩ | ⟨_,h⟩)
  ·exact ⟨_,_,hk⟩
  ·exact ⟨_,_,h⟩
 refine ⟨⟨fun j t' ds hl=>?_,fun j t' ds b' hl hbk=>?_,fun i j c hi hj hBi hBj=>?_,fun g j hF=>?_,hb.more,hb.grow.trans hg,hb.below.trans ⟨hs.os,hs.tape,hs.output,Nat.le_of_eq hs.size.symm,fun i hi hsn=>?_⟩,hb.env⟩,hg⟩
 ·rcases hl with ⟨rfl,rfl,rfl⟩ | ⟨hjk,hy⟩
  ·exact .obj b o' S' hB hnew hnf hS' hm'
  ·refine (hb.boxes _ _ _ hy).grow hg rfl (fun _ _ _ h=>h) fun b' hbk=>⟨hs.block b' fun e=>hjk ?_,fun _ h=>h⟩
   subst e
   exact hb.inj j k _ ⟨_,_,hy⟩ ⟨_,_,hk⟩ hbk hkb
 ·obtain ⟨t1,ds1,h1⟩:=hback _ _ _ hl
  exact hb.new _ _ _ _ h1 hbk
 ·obtain ⟨t1,d1,h1⟩:=hi
  obtain ⟨t2,d2,h2⟩:=hj
  exact hb.inj i j c (hback _ _ _ h1) (hback _ _ _ h2) hBi hBj
 ·rw [hs.size]; exact hb.frz g j hF
 ·refine hs.block i fun e=>?_
  subst e
  rcases hfr with h | h
  ·omega
  ·exact hsn h
theorem Base.lock {B:Env} {F:Fz} {w:World} (hb:Base F0 w0 B F (memL L) w) {k t:Nat} {kk:Option IntKind} {ag:Bool} {α:Type} {d:α} {enc:α → List D} {l:List (MK × α)} (hl:L.lookup k = some (t,[.mapc kk ag d enc l])) :
  ∃ b es clock,Base F0 w0 B F (memL (setRow k t (lockD b es clock kk ag enc l) L)) w:=by
 obtain ⟨b,hB,hfr,hgood,hnf,es,clock,hh,hst,hes⟩:=hb.map' (mem_of_lookup hl)
 refine ⟨b,es,clock,?_⟩
 have hmem:∀ j t' ds,memL (setRow k t (lockD b es clock kk ag enc l) L) j t' ds → (j = k ∧ t' = t ∧ ds = [lockD b es clock kk ag enc l]) ∨ (j ≠ k ∧ memL L j t' ds):=by
  intro j t' ds hm
  unfold memL setRow at hm
  rcases List.mem_cons.1 hm with hm | hm
  ·cases hm; exact .inl ⟨rfl,rfl,rfl⟩
  ·obtain ⟨h3,h4⟩:=List.mem_filter.1 hm
   exact .inr ⟨by simpa using h4,h3⟩
 have hback:∀ j,(∃ t' ds,memL (setRow k t (lockD b es clock kk ag enc l) L) j t' ds) → ∃ t' ds,memL L j t' ds:=by
  rintro j ⟨t',ds,h⟩
  rcases hmem _ _ _ h with ⟨rfl,_,_⟩ | ⟨_,h⟩
  ·exact ⟨_,_,mem_of_lookup hl⟩
  ·exact ⟨_,_,h⟩
 refine ⟨fun j t' ds hm=>?_,fun j t' ds b' hm hbk=>?_,fun i j c hi hj=>hb.inj i j c (hback _ hi) (hback _ hj),hb.frz,hb.more,hb.grow,hb.below,hb.env⟩
 ·rcases hmem _ _ _ hm with ⟨rfl,rfl,rfl⟩ | ⟨_,h⟩
  ·exact .obj b _ _ hB hh hnf ⟨hgood,hst,hes⟩ mapS_mono
  ·exact hb.boxes _ _ _ h
 ·obtain ⟨t1,ds1,h1⟩:=hback _ ⟨_,_,hm⟩
  exact hb.new _ _ _ _ h1 hbk
theorem St.unlock (k:Nat) {t b:Nat} {es:Array MapEntry} {clock:Nat} {kk:Option IntKind} {ag:Bool} {α:Type} (d:α) {enc:α → List D} {l:List (MK × α)} (hl:L.lookup k = some (t,[lockD b es clock kk ag enc l])) (hL:setRow k t (.mapc kk ag d enc l) L = L'):∀ a w,St nt F0 w0 K L a w → St nt F0 w0 K L' a w:=by
 rintro a w ⟨B,F,hb,hd,hs,hK⟩
 subst hL
 obtain ⟨hB,hfr,hh,hnf,⟨hgood,hst,hes⟩,_⟩:=hb.obj' (mem_of_lookup hl)
 have hmem:∀ j t' ds,memL (setRow k t (.mapc kk ag d enc l) L) j t' ds → (j = k ∧ t' = t ∧ ds = [.mapc kk ag d enc l]) ∨ (j ≠ k ∧ memL L j t' ds):=by
  intro j t' ds hm
  unfold memL setRow at hm
  rcases List.mem_cons.1 hm with hm | hm
  ·cases hm; exact .inl ⟨rfl,rfl,rfl⟩
  ·obtain ⟨h3,h4⟩:=List.mem_filter.1 hm
   exact .inr ⟨by simpa using h4,h3⟩
 have hback:∀ j,(∃ t' ds,memL (setRow k t (.mapc kk ag d enc l) L) j t' ds) → ∃ t' ds,memL L j t' ds:=by
  rintro j ⟨t',ds,h⟩
  rcases hmem _ _ _ h with ⟨rfl,_,_⟩ | ⟨_,h⟩
  ·exact ⟨_,_,mem_of_lookup hl⟩
  ·exact ⟨_,_,h⟩
 refine ⟨B,F,⟨fun j t' ds hm=>?_,fun j t' ds b' hm hbk=>?_,fun i j c hi hj=>hb.inj i j c (hback _ hi) (hback _ hj),hb.frz,hb.more,hb.grow,hb.below,hb.env⟩,hd,hs,hK⟩
 ·rcases hmem _ _ _ hm with ⟨rfl,rfl,rfl⟩ | ⟨_,h⟩
  ·exact .map kk ag d enc l b hB ⟨hgood,hnf,es,clock,hh,hst,hes⟩
  ·exact hb.boxes _ _ _ h
 ·obtain ⟨t1,ds1,h1⟩:=hback _ ⟨_,_,hm⟩
  exact hb.new _ _ _ _ h1 hbk
def rangeOp (ops:List Oper):Option (Nat × Nat × Nat) :=
 match ops.getLast? with
 | some o=>match o.op,o.guard,o.dst with | .range t (.tmp s),none,some u=>some (t,s,u) | _,_,_=>none
 | none=>none
theorem Wp.rangeStart (hΓ:ΓOK P Γ) {id:Nat} {ops:List Oper} {t s u k ki tt:Nat} (fz:List (Nat × List Nat)) (orc:List (Nat × D)) (orb:List (Nat × CBd)) (kk kl:List Nat) {ob:List Prop}
  (ho:rangeOp ops = some (t,s,u)) (hu:u < nt)
  (h:(match evOps (CX P) (CallsB P) Γ nt orc orb ops fz ops.dropLast 0 (startES K L) with | some s=>(match keepK s.K kk,keepL s.L kl with | some K',some L'=>some (K',L',s.obl) | _,_=>none) | none=>none) = some (K',L',ob)) (hob:AllP ob)
  {kd:Option IntKind} {sz:Nat} {ag:Bool} (hk:(Γ t).map (·.kind) = some (.map kd sz ag)) {α:Type} {d:α} {enc:α → List D} {m:List (MK × α)}
  (hs:K'.lookup s = some (.mp k)) (hl:L'.lookup k = some (tt,[.mapc kd ag d enc m])) (hki:ki < LIM) (hfr:(L'.all fun x=>!(x.1 == ki) && !(D.namess ki x.2.2)) = true) (hfk:(K'.all fun x=>!(x.1 == u) && !(D.names ki x.2)) = true)
  (hn:∀ b es clock r,To nt F0 w0 ((u,.val (.pointer (some ⟨r,0,none⟩))) :: K') ((ki,0,[iterD r b clock #[]]) :: setRow k tt (lockD b es clock kd ag enc m) L') .normal Q) :
  Wp P nt F0 w0 K L (.region id ops.toArray false) Q:=by
 obtain ⟨ti,ht,hk⟩:=Option.map_eq_some_iff.1 hk
 unfold rangeOp at ho
 split at ho
 rotate_left
 ·cases ho
 rename_i o hlast
 split at ho
 rotate_left
 ·cases ho
 rename_i t' s' u' ho1 hgd hdst
 cases ho
 have hops:ops = ops.dropLast ++ [o]:=by
  obtain ⟨ys,rfl⟩:=List.getLast?_eq_some_iff.1 hlast
  rw [List.dropLast_concat]
 generalize ops.dropLast = l at hops h
 subst hops
 have ho:=ho1
 rintro a w ⟨B,F,hb,hd,hsz,hK⟩
 split at h
 rotate_left
 ·cases h
 rename_i s' hs'
 split at h
 rotate_left
 ·cases h
 rename_i K1 L1 hkk hll
 cases h
 refine wp_region_list ?_
 simp only [List.toList_toArray]
 refine evOps_soundL hΓ [o] l 0 (fun j hj=>by rw [Nat.zero_add,List.getElem?_append_left hj]) hs' (AllP.mem hob) (start_inv hb hd hsz hK) fun B' F' a' w' hi=>?_
 obtain ⟨B1,F1,hb1,hd1,hs1,hK1⟩:=end_inv hi hkk hll
 obtain ⟨_,de,_,_,hde,_,_,_,_,_,_,hkd⟩:=tiOf_spec (hΓ _ _ ht).1
 obtain ⟨kt,et,rfl,hkk2,hsz2⟩:=kind_map (by rw [hkd]; exact hk)
 obtain ⟨b,es,clock,hlock⟩:=hb1.lock hl
 obtain ⟨hB,hfrb,hh,hnf,⟨hgood,hst,hes⟩,_⟩:=hlock.obj' (k:=k) (t:=tt) (by unfold memL setRow; exact List.mem_cons_self)
 obtain ⟨v,hv,hrv⟩:=hK1 _ (mem_of_lookup hs)
 have hvb:v = .map (some b):=by
  cases hrv with
  | mp _ b' hB'=>rw [hB] at hB'; cases hB'; rfl
 subst hvb
 have hrun:(execOp a'.eval o).run P w' = .ok (.value (.pointer (some ⟨w'.heap.size,0,none⟩))) (w'.alloc (.mapIter (some b) clock #[] clock)):=by
  unfold execOp
  simp only [ho,eval_tmp hv,Instr.range,Sem.run_bind,run_underlying hde,MapKept.run_getObj_map hh,Result.andThen_ok,Sem.run_pure,run_newObj]
  rfl
 have hw:Region.wanted o (yielded (l ++ [o]).toArray a'.tmps) = true:=by simp [Region.wanted,hgd]
 unfold wpList
 rw [if_pos hw]
 refine .inl ?_
 unfold Oper.wp
 rw [hrun,Oper.upon_value,hdst]
 refine wpList_nil ?_
 refine hn b es clock w'.heap.size _ _ ?_
 have hB2:=setB_ne B1 ki (.map w'.heap.size)
 have hg:Grow F1 F1 w' (w'.alloc (.mapIter (some b) clock #[] clock)):=⟨fun _ _ h=>h,fun g k hF=>World.cell?_alloc_lt _ _ _ (hb1.frz g k hF)⟩
 have hsz3:=hb1.below.size
 have hall:∀ x ∈ L',x.1 ≠ ki ∧ D.namess ki x.2.2 = false:=by
  intro x hx
  have:=List.all_eq_true.1 hfr x hx
  simpa using this
 have hmemL:∀ j t' ds,memL (setRow k tt (lockD b es clock kd ag enc m) L') j t' ds → j ≠ ki ∧ D.namess ki ds = false:=by
  intro j t' ds hm
  unfold memL setRow at hm
  rcases List.mem_cons.1 hm with hm | hm
  ·cases hm; exact ⟨(hall _ (mem_of_lookup hl)).1,rfl⟩
  ·exact hall _ (List.mem_filter.1 hm).1
 have hlt:∀ c,(∃ j,(∃ t' ds,memL (setRow k tt (lockD b es clock kd ag enc m) L') j t' ds) ∧ blkOf B1 j = some c) → c < w'.heap.size:=by
  rintro c ⟨j,⟨t',ds,h⟩,hbk⟩
  exact (hlock.boxes _ _ _ h).lt hbk
 refine ⟨setB B1 ki (.map w'.heap.size),F1,?_,by rw [put_defers]; exact hd1,by rw [put_size]; exact hs1,fun x hx=>?_⟩
 ·have:=hlock.newKey (t:=ki) (ty:=0) (ds:=[iterD w'.heap.size b clock #[]]) (B':=setB B1 ki (.map w'.heap.size)) (M':=memL (setRow k tt (lockD b es clock kd ag enc m) L')) hg
   (.obj w'.heap.size _ _ (setB_self _ _ _) (by show (w'.heap.push _)[w'.heap.size]? = _; simp) (fun j hj=>by have:=hb1.frz _ _ hj; omega) trivial (fun _ _ _ _ _ h=>h))
   (fun b' hbk=>by
    rw [blkOf_map (setB_self _ _ _)] at hbk; cases hbk
    exact ⟨.inl hsz3,fun j hj _ hbk=>by have:=hlt _ ⟨j,hj,hbk⟩; omega⟩)
   (fun j t' ds hj=>by
    obtain ⟨h1,h2⟩:=hmemL _ _ _ hj
    exact ⟨hj,h1,hB2 j h1,fun F w vs hr=>hr.rebox ki hB2 h2⟩)
   (fun c hbk=>⟨Below.heap_alloc _ _ _ (hlt c hbk),fun _ h=>h⟩) (fun g k hF=>by have:=hb1.frz g k hF; simp; omega) (fun g k h=>.inl h) (.of ((Below.refl _ w').alloc hsz3 _)) (fun j hj=>hB2 j (by omega))
  exact this.sub fun j t' ds hj=>by
   unfold memL at hj
   rcases List.mem_cons.1 hj with hj | hj
   ·cases hj; exact .inl ⟨rfl,rfl,rfl⟩
   ·exact .inr hj
 ·rcases List.mem_cons.1 hx with rfl | hx
  ·exact ⟨_,put_same (by rw [hs1]; exact hu),.val _ rfl⟩
  ·have hne:=List.all_eq_true.1 hfk x hx
   simp only [Bool.and_eq_true,Bool.not_eq_true',beq_eq_false_iff_ne,ne_eq] at hne
   obtain ⟨v,h1,h2⟩:=hK1 x hx
   exact ⟨v,by rw [put_other hne.1]; exact h1,(h2.grow hg).rebox ki hB2 hne.2⟩
theorem Wp.rangeEntry (hΓ:ΓOK P Γ) {id:Nat} {l:List Oper} {o:Oper} {u te k ki tt t2 r b clock j:Nat} {seen:Array Nat} {es:Array MapEntry} {em:MapEntry} {kd:Option IntKind} {ag:Bool} {α:Type} {enc:α → List D} {m:List (MK × α)} {x:MK × α} {dv:D}
  (fz:List (Nat × List Nat)) (orc:List (Nat × D)) (orb:List (Nat × CBd)) (kk kl:List Nat) {ob:List Prop} (hj:es[j]? = some em) (hx:m[j]? = some x)
  (ho:o.op = .entry (.tmp u)) (hgd:o.guard = none) (hdst:o.dst = some te) (hte:te < nt) (hu:K.lookup u = some (.val (.pointer (some ⟨r,0,none⟩)))) (hki:L.lookup ki = some (t2,[iterD r b clock (seen.push em.born)])) (hk:L.lookup k = some (tt,[lockD b es clock kd ag enc m]))
  (hKt:(K.all fun y=>!(y.1 == te)) = true) (hel:elemD ag (enc x.2) = some dv)
  (h:(match evOps (CX P) (CallsB P) Γ nt orc orb (o :: l) fz l 1 (startES ((te,.tup [.hole,dv]) :: K) L) with | some s=>(match keepK s.K kk,keepL s.L kl with | some K',some L'=>some (K',L',s.obl) | _,_=>none) | none=>none) = some (K',L',ob)) (hob:AllP ob)
  (hn:To nt F0 w0 K' L' .normal Q):Wp P nt F0 w0 K L (.region id (o :: l).toArray false) Q:=by
 rintro a w ⟨B,F,hb,hd,hsz,hK⟩
 split at h
 rotate_left
 ·cases h
 rename_i s' hs'
 split at h
 rotate_left
 ·cases h
 rename_i K1 L1 hkk hll
 cases h
 obtain ⟨_,_,hh,_,⟨_,hst,hes⟩,_⟩:=hb.obj' (mem_of_lookup hk)
 obtain ⟨_,_,hr,_,_,_⟩:=hb.obj' (mem_of_lookup hki)
 obtain ⟨v,hv,hrv⟩:=hK _ (mem_of_lookup hu)
 cases hrv
 have hent:∀ {m:List (MK × α)} {es:List MapEntry} {j:Nat},EntsOK F w kd ag enc m es → es[j]? = some em → m[j]? = some x → em.key = x.1.val kd ∧ x.1.ok kd ∧ ElemOK F w ag (enc x.2) em.val:=by
  intro m es j h
  induction h generalizing j with
  | nil=>intro h; simp at h
  | cons y v l e es hk hy hv hr ih =>
   intro h1 h2
   cases j with
   | zero =>
    simp only [List.getElem?_cons_zero,Option.some.injEq] at h1 h2
    subst h1; subst h2
    exact ⟨hk,hy,hv⟩
   | succ j=>exact ih (by simpa using h1) (by simpa using h2)
 obtain ⟨h1,h2,h3⟩:=hent (j:=j) hes (by simpa using hj) hx
 have hrun:(execOp a.eval o).run P w = .ok (.value (.tuple #[em.key,em.val])) w:=by
  unfold execOp
  simp only [ho,eval_tmp hv,Sem.run_bind]
  rw [run_entry_at w r b clock seen es clock em hr hh (Array.mem_toList_iff.2 (Array.mem_of_getElem? hj)) hst.2.1]
  rfl
 refine wp_region_list ?_
 simp only [List.toList_toArray]
 have hw:Region.wanted o (yielded (o :: l).toArray a.tmps) = true:=by simp [Region.wanted,hgd]
 unfold wpList
 rw [if_pos hw]
 refine .inl ?_
 unfold Oper.wp
 rw [hrun,Oper.upon_value,hdst]
 refine evOps_sound hΓ l 1 (fun j=>by simp [Nat.add_comm]) hs' (AllP.mem hob) (B:=B) (F:=F) ?_ fun B' F' a' w' hi=>hn a' w' (end_inv hi hkk hll)
 refine ⟨hb,by rw [put_defers]; exact hd,by rw [put_size]; exact hsz,fun e he=>?_,fun e he=>?_,fun e he=>?_,fun e he j hj=>?_⟩
 all_goals
  obtain ⟨y,hy,rfl⟩:=List.mem_map.1 he
 ·refine ⟨fun _=>?_,fun h=>by simp [holds] at h⟩
  rcases List.mem_cons.1 hy with rfl | hy
  ·refine ⟨_,put_same (by rw [hsz]; exact hte),.tup _ [em.key,em.val] (.cons _ _ _ _ (.hole _ ?_) (.cons _ _ _ _ (h3.of hel B) .nil))⟩
   rw [h1]
   cases x.1 <;> rfl
  ·have hne:=List.all_eq_true.1 hKt y hy
   obtain ⟨v,q1,q2⟩:=hK y hy
   exact ⟨v,by simp only; rw [put_other (by simpa using hne)]; exact q1,q2⟩
 ·simp
 ·exact .inl rfl
 ·simp at hj
theorem left_lt {es:Array MapEntry} {seen:Array Nat} {em:MapEntry} (h:em ∈ (leftOf es seen).toList):(leftOf es (seen.push em.born)).size < (leftOf es seen).size:=by
 have e:(leftOf es (seen.push em.born)).toList = (leftOf es seen).toList.filter (fun x=>x.born != em.born):=by
  unfold leftOf
  rw [Array.toList_filter,Array.toList_filter,List.filter_filter]
  refine List.filter_congr fun x _=>?_
  simp only [Array.contains_push,Bool.not_or]
  rw [Bool.and_comm]
  rfl
 have h1:=List.length_filter_lt_length_iff_exists (p:=fun x:MapEntry=>x.born != em.born) (l:=(leftOf es seen).toList)
 rw [← e] at h1
 simp only [Array.length_toList] at h1
 exact h1.2 ⟨em,h,by simp⟩
theorem WL.mapRange {X:Type} [DecidableEq X] {id id1 rid:Nat} {Bd:Code} {on ox:Oper} {u tn tk ki t2 k tt b clock r:Nat} {es:Array MapEntry} {kd:Option IntKind} {ag:Bool} {α:Type} {enc:α → List D} {m:List (MK × α)} {Lr:Boxes}
  (round:MK × α → Option (Unit ⊕ X)) (res:Unit ⊕ X) (PX:Array Nat → X → (Exit → Act → World → Prop) → Prop)
  (hon:∃ ty,on.op = .next (.tmp u) false ∧ on.type = ty) (hgn:on.guard = none) (hdn:on.dst = some tn) (hox:ox.op = .extract (.tmp tn) 0) (hgx:ox.guard = none) (hdx:ox.dst = some tk) (htn:tn < nt ∧ tk < nt)
  (hu:K.lookup u = some (.val (.pointer (some ⟨r,0,none⟩)))) (hKt:(K.all fun y=>!(y.1 == tn) && !(y.1 == tk)) = true) (hkk:k ≠ ki) (hLr:(Lr.all fun y=>!(y.1 == ki) && !(y.1 == k)) = true)
  (hres:roundAll round m = some res)
  (hround:∀ (seen:Array Nat) (em:MapEntry) (j:Nat) (x:MK × α) (s:Unit ⊕ X),es[j]? = some em → m[j]? = some x → round x = some s → ∀ Q',Sum.elim (fun _=>To nt F0 w0 K ((ki,t2,[iterD r b clock (seen.push em.born)]) :: (k,tt,[lockD b es clock kd ag enc m]) :: Lr) .normal Q') (fun y=>PX (seen.push em.born) y Q') s →
   Wp P nt F0 w0 K ((ki,t2,[iterD r b clock (seen.push em.born)]) :: (k,tt,[lockD b es clock kd ag enc m]) :: Lr) (.block id1 Bd) Q')
  (hend:res = .inl () → ∀ seen,To nt F0 w0 K ((ki,t2,[iterD r b clock seen]) :: (k,tt,[lockD b es clock kd ag enc m]) :: Lr) (.exit id) Q)
  (hexit:∀ seen y,res = .inr y → PX seen y (Exit.then (fun a w=>Lp P (.seq (.region rid #[on,ox] false) (.seq (.cond (.tmp tk) .skip (.exit id)) (.block id1 Bd))) Q a w) Q)) :
  WL P nt F0 w0 K ((ki,t2,[iterD r b clock #[]]) :: (k,tt,[lockD b es clock kd ag enc m]) :: Lr) (.seq (.region rid #[on,ox] false) (.seq (.cond (.tmp tk) .skip (.exit id)) (.block id1 Bd))) Q:=by
 obtain ⟨hr1,hr2⟩:=roundAll_spec hres
 have hKn:∀ y ∈ K,y.1 ≠ tn ∧ y.1 ≠ tk:=fun y hy=>by simpa using List.all_eq_true.1 hKt y hy
 have hLn:∀ y ∈ Lr,y.1 ≠ ki ∧ y.1 ≠ k:=fun y hy=>by simpa using List.all_eq_true.1 hLr y hy
 have key:∀ (n:Nat) (seen:Array Nat),(leftOf es seen).size = n → (∀ (em:MapEntry) (j:Nat) (x:MK × α),es[j]? = some em → m[j]? = some x → seen.contains em.born = true → round x = some (.inl ())) →
   WL P nt F0 w0 K ((ki,t2,[iterD r b clock seen]) :: (k,tt,[lockD b es clock kd ag enc m]) :: Lr) (.seq (.region rid #[on,ox] false) (.seq (.cond (.tmp tk) .skip (.exit id)) (.block id1 Bd))) Q:=by
  intro n
  induction n using Nat.strongRecOn with
  | _ n ih =>
   intro seen hn hseen
   refine WL.round (Wp.seq ?_)
   rintro a w ⟨B,F,hb,hd,hsz,hK⟩
   obtain ⟨hBk,_,hh,_,⟨hgood,hst,hes⟩,_⟩:=hb.obj' (k:=k) (t:=tt) (List.mem_cons_of_mem _ List.mem_cons_self)
   obtain ⟨hBi,_,hr,_,_,_⟩:=hb.obj' (k:=ki) (t:=t2) List.mem_cons_self
   obtain ⟨v,hv,hrv⟩:=hK _ (mem_of_lookup hu)
   cases hrv
   obtain ⟨ty,hon1,hon2⟩:=hon
   have hlen:es.size = m.length:=by have:=hes.length; simpa using this
   have hlive:∀ x ∈ es.toList,x.born < clock:=hst.1
   have ops:∀ (vs:Array Value) (bv:Bool) (w':World),(Instr.next (.pointer (some ⟨r,0,none⟩)) false on.type).run P w = .ok (.tuple vs) w' → vs[0]? = some (.bool bv) →
     ∀ {R:Exit → Act → World → Prop},R .normal ((a.put (some tn) (.tuple vs)).put (some tk) (.bool bv)) w' → (Code.region rid #[on,ox] false).wp P R a w:=by
    intro vs bv w' hrun hv0 R hR
    refine wp_region_list ?_
    have e1:(execOp a.eval on).run P w = .ok (.value (.tuple vs)) w':=by
     unfold execOp
     simp only [hon1,eval_tmp hv,Sem.run_bind,hrun,Result.andThen_ok,Sem.run_pure]
    have hw1:Region.wanted on (yielded #[on,ox] a.tmps) = true:=by simp [Region.wanted,hgn]
    show wpList P #[on,ox] R [on,ox] a w
    unfold wpList
    rw [if_pos hw1]
    refine .inl ?_
    unfold Oper.wp
    rw [e1,Oper.upon_value,hdn]
    have hvn:(a.put (some tn) (.tuple vs)).tmps[tn]? = some (.tuple vs):=put_same (by rw [hsz]; exact htn.1)
    have e2:(execOp (a.put (some tn) (.tuple vs)).eval ox).run P w' = .ok (.value (.bool bv)) w':=by
     unfold execOp
     simp only [hox,eval_tmp hvn,Sem.run_bind,Instr.extract,Sem.run_pure,Result.andThen_ok]
     simp [hv0]
    have hw2:Region.wanted ox (yielded #[on,ox] (a.put (some tn) (.tuple vs)).tmps) = true:=by simp [Region.wanted,hgx]
    unfold wpList
    rw [if_pos hw2]
    refine .inl ?_
    unfold Oper.wp
    rw [e2,Oper.upon_value,hdx]
    exact wpList_nil hR
   have hKput:∀ (vs:Array Value) (bv:Bool) {F':Fz} {w':World},Grow F F' w w' → ∀ x ∈ K,∃ v,((a.put (some tn) (.tuple vs)).put (some tk) (.bool bv)).tmps[x.1]? = some v ∧ Rep F' w' B x.2 v:=by
    intro vs bv F' w' hg x hx
    obtain ⟨v,q1,q2⟩:=hK x hx
    exact ⟨v,by rw [put_other (hKn x hx).2,put_other (hKn x hx).1]; exact q1,q2.grow hg⟩
   have hcond:∀ (vs:Array Value) (bv:Bool),((a.put (some tn) (.tuple vs)).put (some tk) (.bool bv)).tmps[tk]? = some (.bool bv):=fun vs bv=>put_same (by rw [put_size,hsz]; exact htn.2)
   rcases run_next_at w on.type r b clock clock seen es clock hr hh hlive (Nat.le_refl _) with ⟨h0,hrun⟩ | ⟨em,hem,w1,hw1,hrun⟩
   ·
    refine ops _ false w hrun rfl ?_
    refine wp_seq ?_
    refine wp_cond_split (eval_tmp (hcond _ false)) (fun h=>by cases h) fun _=>wp_exit ?_
    have hall:∀ e ∈ m,round e = some (.inl ()):=by
     intro x hx
     obtain ⟨j,hj⟩:=List.getElem?_of_mem hx
     have hjl:j < es.size:=by rw [hlen]; exact (List.getElem?_eq_some_iff.1 hj).1
     refine hseen es[j] j x (Array.getElem?_eq_getElem hjl) hj ?_
     cases hc:seen.contains es[j].born with
     | true=>rfl
     | false =>
      have:es[j] ∈ (leftOf es seen).toList:=by
       unfold leftOf
       simp [hc]
       simpa using hc
      have hl:(leftOf es seen).toList.length = 0:=by simpa using h0
      rw [List.eq_nil_of_length_eq_zero hl] at this
      simp at this
    exact hend (hr2 hall) seen _ _ ⟨B,F,hb,by rw [put_defers,put_defers]; exact hd,by rw [put_size,put_size]; exact hsz,hKput _ _ (Grow.refl _ _)⟩
   ·
    have hlt:=left_lt hem
    have hmem:em ∈ es.toList:=by unfold leftOf at hem; simp at hem; simpa using hem.1
    refine ops _ true (setBlock w1 r (.mapIter (some b) clock (seen.push em.born) clock)) hrun rfl ?_
    refine wp_seq ?_
    refine wp_cond_split (eval_tmp (hcond _ true)) (fun _=>wp_skip ?_) fun h=>by cases h
    obtain ⟨j,hj⟩:=List.getElem?_of_mem hmem
    have hj':es[j]? = some em:=by simpa using hj
    have hjl:j < m.length:=by rw [← hlen]; exact (Array.getElem?_eq_some_iff.1 hj').1
    have hxm:=List.getElem?_eq_getElem hjl
    obtain ⟨s,hs,hsy⟩:=hr1 _ (List.getElem_mem hjl)
    have hw1h:w1.heap = w.heap ∧ w1.os = w.os ∧ w1.tape = w.tape ∧ w1.output = w.output:=by rcases hw1 with rfl | rfl <;> exact ⟨rfl,rfl,rfl,rfl⟩
    have hset:MapSet w (setBlock w1 r (.mapIter (some b) clock (seen.push em.born) clock)) r:=by
     refine ⟨hw1h.2.1,hw1h.2.2.1,hw1h.2.2.2,?_,fun i hi=>?_⟩
     ·simp [setBlock,hw1h.1]
     ·simp only [setBlock,hw1h.1]
      exact (MapKept.heap_set hr).2 i hi
    have hnew:(setBlock w1 r (.mapIter (some b) clock (seen.push em.born) clock)).heap[r]? = some (.mapIter (some b) clock (seen.push em.born) clock):=by
     simp only [setBlock,hw1h.1]
     exact (MapKept.heap_set hr).1
    obtain ⟨hb2,hg2⟩:=hb.oset (k:=ki) (t:=t2) List.mem_cons_self hset hnew (S':=fun _ _=>True) trivial (fun _ _ _ _ _ h=>h)
    have hb3:Base F0 w0 B F (memL ((ki,t2,[iterD r b clock (seen.push em.born)]) :: (k,tt,[lockD b es clock kd ag enc m]) :: Lr)) (setBlock w1 r (.mapIter (some b) clock (seen.push em.born) clock)):=by
     refine hb2.sub fun j' t' ds h=>?_
     unfold memL at h
     rcases List.mem_cons.1 h with h | h
     ·cases h; exact .inl ⟨rfl,rfl,rfl⟩
     ·refine .inr ⟨?_,List.mem_cons_of_mem _ h⟩
      rcases List.mem_cons.1 h with h | h
      ·cases h; exact hkk
      ·exact (hLn _ h).1
    refine hround seen em j _ s hj' hxm hs _ ?_ _ _ ⟨B,F,hb3,by rw [put_defers,put_defers]; exact hd,by rw [put_size,put_size]; exact hsz,hKput _ _ hg2⟩
    cases s with
    | inl u' =>
     refine To.again ?_
     refine ih _ (by rw [← hn]; exact hlt) _ rfl fun em' j' x' h1 h2 h3=>?_
     rw [Array.contains_push,Bool.or_eq_true] at h3
     rcases h3 with h3 | h3
     ·exact hseen _ _ _ h1 h2 h3
     ·have hbb:em'.born = em.born:=by simpa using h3
      have hj2:j' = j:=by
       have a1:(es.toList.map (·.born))[j']? = some em.born:=by rw [List.getElem?_map]; simp [h1,hbb]
       have a2:(es.toList.map (·.born))[j]? = some em.born:=by rw [List.getElem?_map]; simp [hj']
       have l1:=(List.getElem?_eq_some_iff.1 a1).1
       exact (List.getElem?_inj l1 hst.2.1).1 (a1.trans a2.symm)
      subst hj2
      rw [hxm] at h2; cases h2
      exact hs
    | inr y=>exact hexit _ y (hsy y rfl)
 exact key _ #[] rfl fun em j x _ _ h=>by simp at h
theorem WL.mapRangeL {X:Type} [DecidableEq X] {id id1 rid:Nat} {Bd:Code} {on ox:Oper} {u tn tk ki t2 k tt b clock r:Nat} {es:Array MapEntry} {kd:Option IntKind} {ag:Bool} {α:Type} {enc:α → List D} {m:List (MK × α)} {Lr:Boxes} (Lf:Array Nat → Boxes)
  (round:MK × α → Option (Unit ⊕ X)) (res:Unit ⊕ X) (PX:Array Nat → X → (Exit → Act → World → Prop) → Prop) (ks1 ks2:List Nat)
  (hA:∀ seen,keepL (Lf seen) ks1 = some ((ki,t2,[iterD r b clock seen]) :: (k,tt,[lockD b es clock kd ag enc m]) :: Lr)) (hB:∀ seen,keepL ((ki,t2,[iterD r b clock seen]) :: (k,tt,[lockD b es clock kd ag enc m]) :: Lr) ks2 = some (Lf seen))
  (hon:∃ ty,on.op = .next (.tmp u) false ∧ on.type = ty) (hgn:on.guard = none) (hdn:on.dst = some tn) (hox:ox.op = .extract (.tmp tn) 0) (hgx:ox.guard = none) (hdx:ox.dst = some tk) (htn:tn < nt ∧ tk < nt)
  (hu:K.lookup u = some (.val (.pointer (some ⟨r,0,none⟩)))) (hKt:(K.all fun y=>!(y.1 == tn) && !(y.1 == tk)) = true) (hkk:k ≠ ki) (hLr:(Lr.all fun y=>!(y.1 == ki) && !(y.1 == k)) = true)
  (hres:roundAll round m = some res)
  (hround:∀ (seen:Array Nat) (em:MapEntry) (j:Nat) (x:MK × α) (s:Unit ⊕ X),es[j]? = some em → m[j]? = some x → round x = some s → ∀ Q',Sum.elim (fun _=>To nt F0 w0 K (Lf (seen.push em.born)) .normal Q') (fun y=>PX (seen.push em.born) y Q') s →
   Wp P nt F0 w0 K (Lf (seen.push em.born)) (.block id1 Bd) Q')
  (hend:res = .inl () → ∀ seen,To nt F0 w0 K (Lf seen) (.exit id) Q)
  (hexit:∀ seen y,res = .inr y → PX seen y (Exit.then (fun a w=>Lp P (.seq (.region rid #[on,ox] false) (.seq (.cond (.tmp tk) .skip (.exit id)) (.block id1 Bd))) Q a w) Q)) :
  WL P nt F0 w0 K (Lf #[]) (.seq (.region rid #[on,ox] false) (.seq (.cond (.tmp tk) .skip (.exit id)) (.block id1 Bd))) Q:=by
 have hsub:∀ seen x,x ∈ (ki,t2,[iterD r b clock seen]) :: (k,tt,[lockD b es clock kd ag enc m]) :: Lr → x ∈ Lf seen:=fun seen=>keepL_mem (hA seen)
 have hsub2:∀ seen x,x ∈ Lf seen → x ∈ (ki,t2,[iterD r b clock seen]) :: (k,tt,[lockD b es clock kd ag enc m]) :: Lr:=fun seen=>keepL_mem (hB seen)
 intro a w hs
 refine WL.mapRange round res PX hon hgn hdn hox hgx hdx htn hu hKt hkk hLr hres (fun seen em j x s h1 h2 h3 Q' hQ=>?_) (fun he seen=>To.sub (fun _ h=>h) (hsub2 seen) (hend he seen)) hexit a w ?_
 ·refine Wp.sub (fun _ h=>h) (hsub2 _) (hround seen em j x s h1 h2 h3 Q' ?_)
  cases s with
  | inl u'=>exact To.sub (fun _ h=>h) (hsub _) hQ
  | inr y=>exact hQ
 ·obtain ⟨B,F,hb,hd,hsz,hK⟩:=hs
  exact ⟨B,F,hb.sub fun _ _ _ h=>hsub _ _ h,hd,hsz,hK⟩
end
end Go.Proofs.YtaecmkldkljioaaGreat.RX
