import Derived.Test.YtibgdilkodjojaaGreatDoorQRxAnyC
set_option linter.all false
namespace Go.Proofs.YtibgdilkodjojaaGreatDoor.RX
open Go.RowKit
def rdy (ops:List Oper) (m i:Nat):Bool:=!(m.testBit i) && (match ops[i]? with | some o=>(onL o).all fun j=>m.testBit j | none=>false)
def moveOp (o:Oper):Bool:=match o.op,o.guard,o.dst with | .move _,none,some _=>true | _,_,_=>false
def freeB (ops:List Oper) (m i:Nat):Bool :=
 match ops[i]? with
 | some oi=>(List.range ops.length).all fun j=>j == i || m.testBit j || match ops[j]? with | some oj=>(onL oj).contains i || oi.apart ops.toArray oj | none=>true
 | none=>false
def takeOf (ops:List Oper) (m:Nat):Option Nat:=(List.range ops.length).find? fun i=>(match ops[i]? with | some o=>moveOp o | none=>false) && (rdy ops m i && freeB ops m i)
def normES (slots keys:List Nat) (n:Nat) (s:ES):ES :=
 { K:=slots.filterMap (findSlot s.K),L:=keys.filterMap fun k=>(s.L.lookup k).map fun x=>(k,x),tab:=(List.range n).filterMap fun j=>(s.tab.lookup j).map fun b=>(j,b),obl:=[] }
structure OA where
 lv:List (Nat × ES)
 ps:List (ES × ES)
 ob:List (Nat × List Prop)
 os:List (List Prop × List Prop)
def insS (m:Nat) (s:ES) (A:OA):OA:=match A.lv.lookup m with | some s'=>{ A with ps:=(s,s') :: A.ps } | none=>{ A with lv:=A.lv ++ [(m,s)] }
def insO (i:Nat) (o:List Prop) (A:OA):OA:=match A.ob.lookup i with | some o'=>{ A with os:=(o,o') :: A.os } | none=>{ A with ob:=A.ob ++ [(i,o)] }
section
variable (C:Nat → List D → D → Prop) (CB:Nat → List D → Boxes → D → Boxes → Prop) (Γ:Nat → Option TI) (nt:Nat) (orc:List (Nat × D)) (orb:List (Nat × CBd)) (ops:List Oper) (fz:List (Nat × List Nat)) (slots keys:List Nat)
def stepE (i:Nat) (s:ES):Option ES:=match ops[i]? with | some o=>stepOp C CB Γ nt orc orb ops i o (settles fz i { s with obl:=[] }) | none=>none
def expand1 (m:Nat) (s:ES):List Nat → OA → Option OA
 | [],A=>some A
 | i :: is,A =>
  match rdy ops m i with
  | true=>match stepE C CB Γ nt orc orb ops fz i s with | some s'=>expand1 m s is (insO i s'.obl (insS (m ||| 1 <<< i) (normES slots keys ops.length s') A)) | none=>none
  | false=>expand1 m s is A
def expand:List (Nat × ES) → OA → Option OA
 | [],A=>some A
 | x :: rest,A=>match expand1 C CB Γ nt orc orb ops fz slots keys x.1 x.2 (match takeOf ops x.1 with | some i=>[i] | none=>List.range ops.length) A with | some A'=>expand rest A' | none=>none
def levels:Nat → OA → Option OA
 | 0,A=>some A
 | r + 1,A=>match expand C CB Γ nt orc orb ops fz slots keys A.lv { A with lv:=[] } with | some A'=>levels r A' | none=>none
def startOA (K:List (Nat × D)) (L:Boxes):OA:={ lv:=[(0,normES slots keys ops.length (startES K L))],ps:=[],ob:=[],os:=[] }
def oblOf (n:Nat) (ob:List (Nat × List Prop)):List Prop:=(List.range n).flatMap fun i=>(ob.lookup i).getD []
def ndB (o:Oper):Bool:=match o.op with | .defer _=>false | _=>true
def evOrd (K:List (Nat × D)) (L:Boxes):Option OA :=
 if edgesOK ops && Region.noSelect ops.toArray && ops.all ndB then levels C CB Γ nt orc orb ops fz slots keys ops.length (startOA ops slots keys K L) else none
def ordOut (kk kl:List Nat):Option OA → Option (List (Nat × D) × Boxes × List Prop)
 | some A=>match A.lv with | [(_,s)]=>(match keepK s.K kk,keepL s.L kl with | some K',some L'=>some (K',L',oblOf ops.length A.ob) | _,_=>none) | _=>none
 | none=>none
end
def ordL:Option OA → List ES × List (List Prop)
 | some A=>(A.ps.map (·.1),A.os.map (·.1))
 | none=>([],[])
def ordR:Option OA → List ES × List (List Prop)
 | some A=>(A.ps.map (·.2),A.os.map (·.2))
 | none=>([],[])
theorem map_eq_mem {α:Type 1}:∀ {l:List (α × α)},l.map (·.1) = l.map (·.2) → ∀ p ∈ l,p.1 = p.2
 | [],_,p,hp=>by simp at hp
 | q :: l,h,p,hp=>by
  simp only [List.map_cons,List.cons.injEq] at h
  rcases List.mem_cons.1 hp with rfl | hp
  ·exact h.1
  ·exact map_eq_mem h.2 p hp
theorem map_eq_mem0 {α:Type}:∀ {l:List (α × α)},l.map (·.1) = l.map (·.2) → ∀ p ∈ l,p.1 = p.2
 | [],_,p,hp=>by simp at hp
 | q :: l,h,p,hp=>by
  simp only [List.map_cons,List.cons.injEq] at h
  rcases List.mem_cons.1 hp with rfl | hp
  ·exact h.1
  ·exact map_eq_mem0 h.2 p hp
theorem lookup_app {β:Type 1}:∀ {l:List (Nat × β)} {m:Nat} {s:β} {r:List (Nat × β)},l.lookup m = some s → (l ++ r).lookup m = some s
 | [],m,s,r,h=>by simp at h
 | (k,x) :: l,m,s,r,h=>by
  rw [List.cons_append,List.lookup_cons]
  rw [List.lookup_cons] at h
  split
  ·rename_i he; rw [he] at h; exact h
  ·rename_i he; rw [he] at h; exact lookup_app h
theorem lookup_last {β:Type 1}:∀ {l:List (Nat × β)} {m:Nat} {s:β},l.lookup m = none → (l ++ [(m,s)]).lookup m = some s
 | [],m,s,_=>by simp
 | (k,x) :: l,m,s,h=>by
  rw [List.cons_append,List.lookup_cons]
  rw [List.lookup_cons] at h
  split
  ·rename_i he; rw [he] at h; cases h
  ·rename_i he; rw [he] at h; exact lookup_last h
theorem lookup_app0 {β:Type}:∀ {l:List (Nat × β)} {m:Nat} {s:β} {r:List (Nat × β)},l.lookup m = some s → (l ++ r).lookup m = some s
 | [],m,s,r,h=>by simp at h
 | (k,x) :: l,m,s,r,h=>by
  rw [List.cons_append,List.lookup_cons]
  rw [List.lookup_cons] at h
  split
  ·rename_i he; rw [he] at h; exact h
  ·rename_i he; rw [he] at h; exact lookup_app0 h
theorem lookup_last0 {β:Type}:∀ {l:List (Nat × β)} {m:Nat} {s:β},l.lookup m = none → (l ++ [(m,s)]).lookup m = some s
 | [],m,s,_=>by simp
 | (k,x) :: l,m,s,h=>by
  rw [List.cons_append,List.lookup_cons]
  rw [List.lookup_cons] at h
  split
  ·rename_i he; rw [he] at h; cases h
  ·rename_i he; rw [he] at h; exact lookup_last0 h
structure Mono (A A':OA):Prop where
 lv:∀ m s,A.lv.lookup m = some s → A'.lv.lookup m = some s
 ob:∀ i o,A.ob.lookup i = some o → A'.ob.lookup i = some o
 ps:∀ p ∈ A.ps,p ∈ A'.ps
 os:∀ p ∈ A.os,p ∈ A'.os
theorem Mono.refl (A:OA):Mono A A:=⟨fun _ _ h=>h,fun _ _ h=>h,fun _ h=>h,fun _ h=>h⟩
theorem Mono.trans {A B C:OA} (h:Mono A B) (h':Mono B C):Mono A C:=⟨fun m s x=>h'.lv m s (h.lv m s x),fun i o x=>h'.ob i o (h.ob i o x),fun p x=>h'.ps p (h.ps p x),fun p x=>h'.os p (h.os p x)⟩
theorem insS_mono (m:Nat) (s:ES) (A:OA):Mono A (insS m s A):=by
 unfold insS
 split
 ·exact ⟨fun _ _ h=>h,fun _ _ h=>h,fun _ h=>List.mem_cons_of_mem _ h,fun _ h=>h⟩
 ·exact ⟨fun _ _ h=>lookup_app h,fun _ _ h=>h,fun _ h=>h,fun _ h=>h⟩
theorem insO_mono (i:Nat) (o:List Prop) (A:OA):Mono A (insO i o A):=by
 unfold insO
 split
 ·exact ⟨fun _ _ h=>h,fun _ _ h=>h,fun _ h=>h,fun _ h=>List.mem_cons_of_mem _ h⟩
 ·exact ⟨fun _ _ h=>h,fun _ _ h=>lookup_app0 h,fun _ h=>h,fun _ h=>h⟩
theorem insS_has (m:Nat) (s:ES) (A:OA) {A':OA} (h:Mono (insS m s A) A') (hp:∀ p ∈ A'.ps,p.1 = p.2):A'.lv.lookup m = some s:=by
 unfold insS at h
 split at h
 ·rename_i s' hs
  have:=hp _ (h.ps _ List.mem_cons_self)
  simp only at this
  rw [this]; exact h.lv m s' hs
 ·rename_i hs
  exact h.lv m s (lookup_last hs)
theorem insO_has (i:Nat) (o:List Prop) (A:OA) {A':OA} (h:Mono (insO i o A) A') (hp:∀ p ∈ A'.os,p.1 = p.2):A'.ob.lookup i = some o:=by
 unfold insO at h
 split at h
 ·rename_i o' ho
  have:=hp _ (h.os _ List.mem_cons_self)
  simp only at this
  rw [this]; exact h.ob i o' ho
 ·rename_i ho
  exact h.ob i o (lookup_last0 ho)
section
variable {C:Nat → List D → D → Prop} {CB:Nat → List D → Boxes → D → Boxes → Prop} {P:Program} {F0:Fz} {w0:Pt P} {B:Env} {F:Fz} {w:World} {a:Act} {Q:Exit → Act → World → Prop} {Γ:Nat → Option TI} {nt:Nat} {ops:List Oper} {orc:List (Nat × D)} {orb:List (Nat × CBd)} {fz:List (Nat × List Nat)} {slots keys:List Nat}
def Next (C:Nat → List D → D → Prop) (CB:Nat → List D → Boxes → D → Boxes → Prop) (Γ:Nat → Option TI) (nt:Nat) (orc:List (Nat × D)) (orb:List (Nat × CBd)) (ops:List Oper) (fz:List (Nat × List Nat)) (slots keys:List Nat) (m:Nat) (s:ES) (i:Nat) (lv:List (Nat × ES)) (ob:List (Nat × List Prop)):Prop :=
 ∃ s',stepE C CB Γ nt orc orb ops fz i s = some s' ∧ lv.lookup (m ||| 1 <<< i) = some (normES slots keys ops.length s') ∧ ob.lookup i = some s'.obl
theorem expand1_ok {m:Nat} {s:ES}:∀ {is:List Nat} {A A':OA},expand1 C CB Γ nt orc orb ops fz slots keys m s is A = some A' →
  Mono A A' ∧ ∀ A'',Mono A' A'' → (∀ p ∈ A''.ps,p.1 = p.2) → (∀ p ∈ A''.os,p.1 = p.2) → ∀ i ∈ is,rdy ops m i = true → Next C CB Γ nt orc orb ops fz slots keys m s i A''.lv A''.ob
 | [],A,A',h=>by cases h; exact ⟨.refl _,fun _ _ _ _ i hi=>by simp at hi⟩
 | i :: is,A,A',h=>by
  unfold expand1 at h
  split at h
  ·rename_i hr
   split at h
   ·rename_i s' hs
    obtain ⟨h1,h2⟩:=expand1_ok h
    have hm1:=insS_mono (m ||| 1 <<< i) (normES slots keys ops.length s') A
    have hm2:=insO_mono i s'.obl (insS (m ||| 1 <<< i) (normES slots keys ops.length s') A)
    refine ⟨hm1.trans (hm2.trans h1),fun A'' hA hp ho j hj hrj=>?_⟩
    rcases List.mem_cons.1 hj with rfl | hj
    ·exact ⟨s',hs,insS_has _ _ A (hm2.trans (h1.trans hA)) hp,insO_has _ _ _ (h1.trans hA) ho⟩
    ·exact h2 A'' hA hp ho j hj hrj
   ·cases h
  ·rename_i hr
   obtain ⟨h1,h2⟩:=expand1_ok h
   refine ⟨h1,fun A'' hA hp ho j hj hrj=>?_⟩
   rcases List.mem_cons.1 hj with rfl | hj
   ·rw [hr] at hrj; cases hrj
   ·exact h2 A'' hA hp ho j hj hrj
theorem expand_ok:∀ {lv:List (Nat × ES)} {A A':OA},expand C CB Γ nt orc orb ops fz slots keys lv A = some A' →
  Mono A A' ∧ ∀ A'',Mono A' A'' → (∀ p ∈ A''.ps,p.1 = p.2) → (∀ p ∈ A''.os,p.1 = p.2) → ∀ x ∈ lv,∀ i,i < ops.length → rdy ops x.1 i = true → (takeOf ops x.1 = none ∨ takeOf ops x.1 = some i) → Next C CB Γ nt orc orb ops fz slots keys x.1 x.2 i A''.lv A''.ob
 | [],A,A',h=>by cases h; exact ⟨.refl _,fun _ _ _ _ x hx=>by simp at hx⟩
 | x :: lv,A,A',h=>by
  unfold expand at h
  split at h
  ·rename_i A1 hA1
   obtain ⟨h1,h2⟩:=expand1_ok hA1
   obtain ⟨h3,h4⟩:=expand_ok h
   refine ⟨h1.trans h3,fun A'' hA hp ho y hy i hi hr ht=>?_⟩
   rcases List.mem_cons.1 hy with rfl | hy
   ·refine h2 A'' (h3.trans hA) hp ho i ?_ hr
    rcases ht with ht | ht
    ·rw [ht]; exact List.mem_range.2 hi
    ·rw [ht]; exact List.mem_singleton.2 rfl
   ·exact h4 A'' hA hp ho y hy i hi hr ht
  ·cases h
structure MonoP (A A':OA):Prop where
 ob:∀ i o,A.ob.lookup i = some o → A'.ob.lookup i = some o
 ps:∀ p ∈ A.ps,p ∈ A'.ps
 os:∀ p ∈ A.os,p ∈ A'.os
theorem levels_mono:∀ {r:Nat} {A A':OA},levels C CB Γ nt orc orb ops fz slots keys r A = some A' → MonoP A A'
 | 0,A,A',h=>by cases h; exact ⟨fun _ _ h=>h,fun _ h=>h,fun _ h=>h⟩
 | r + 1,A,A',h=>by
  unfold levels at h
  split at h
  ·rename_i A1 hA1
   have h1:=(expand_ok hA1).1
   have h2:=levels_mono h
   exact ⟨fun i o x=>h2.ob i o (h1.ob i o x),fun p x=>h2.ps p (h1.ps p x),fun p x=>h2.os p (h1.os p x)⟩
  ·cases h
theorem lookup_fm (f:Nat → Option Bool) (j:Nat):∀ l:List Nat,(l.filterMap fun j=>(f j).map fun b=>(j,b)).lookup j = if j ∈ l then f j else none
 | []=>by simp
 | k :: l=>by
  rw [List.filterMap_cons]
  cases hf:f k with
  | none =>
   simp only [Option.map_none]
   rw [lookup_fm f j l]
   by_cases hjk:j = k
   ·subst hjk
    rw [hf]; simp
   ·simp [hjk]
  | some b =>
   simp only [Option.map_some,List.lookup_cons]
   by_cases hjk:j = k
   ·subst hjk; simp [hf]
   ·have:(j == k) = false:=by simpa using hjk
    rw [this]
    simp only
    rw [lookup_fm f j l]
    simp [hjk]
theorem tv_norm {tab:List (Nat × Bool)} {n j:Nat} (h:j < n):tv ((List.range n).filterMap fun j=>(tab.lookup j).map fun b=>(j,b)) j = tv tab j:=by
 unfold tv
 rw [lookup_fm (fun j=>tab.lookup j),if_pos (List.mem_range.2 h)]
theorem inv_norm {s:ES} {S:Nat → Prop} (hi:InvR nt ops F0 w0 B F s S a w) {n:Nat} (hn:∀ j,S j → j < n):InvR nt ops F0 w0 B F (normES slots keys n s) S a w:=by
 have hmem:∀ e ∈ (normES slots keys n s).K,e ∈ s.K:=by
  intro e he
  obtain ⟨t,_,h⟩:=List.mem_filterMap.1 he
  exact (find_mem h).1
 refine ⟨hi.base.sub fun k t ds h=>?_,hi.defers,hi.size,fun e he=>(hi.ents e (hmem e he)).tab fun x hx=>tv_norm (hn _ (hi.keys e (hmem e he) x hx)),fun e he=>hi.keys e (hmem e he),fun e he=>hi.srcs e (hmem e he),fun e he j hj=>?_⟩
 ·obtain ⟨k',_,hk⟩:=List.mem_filterMap.1 h
  cases hl:s.L.lookup k' with
  | none=>rw [hl] at hk; cases hk
  | some x =>
   rw [hl] at hk
   cases hk
   exact mem_of_lookup hl
 ·obtain ⟨h1,h2⟩:=hi.dsts e (hmem e he) j hj
  refine ⟨h1,fun b hb=>?_⟩
  have hsj:S j:=by
   have:=hi.srcs e (hmem e he)
   rw [hj] at this
   simpa using this
  rw [← h2 b hb]
  exact tv_norm (hn j hsj)
theorem inv_obl {s:ES} {S:Nat → Prop} (hi:InvR nt ops F0 w0 B F s S a w) (o:List Prop):InvR nt ops F0 w0 B F { s with obl:=o } S a w:=⟨hi.base,hi.defers,hi.size,hi.ents,hi.keys,hi.srcs,hi.dsts⟩
theorem filter_less:∀ {l:List Nat} {i:Nat} {p p':Nat → Bool},l.Nodup → i ∈ l → p i = true → p' i = false → (∀ j,j ≠ i → p' j = p j) → (l.filter p').length + 1 = (l.filter p).length
 | [],i,p,p',_,h,_,_,_=>by simp at h
 | x :: l,i,p,p',hn,h,h1,h2,h3=>by
  have hn':=List.nodup_cons.1 hn
  by_cases hx:x = i
  ·subst hx
   have he:l.filter p' = l.filter p:=List.filter_congr fun j hj=>h3 j fun e=>hn'.1 (e ▸ hj)
   rw [List.filter_cons,List.filter_cons,h1,h2,he]
   simp
  ·have ih:=filter_less hn'.2 ((List.mem_cons.1 h).resolve_left fun e=>hx e.symm) h1 h2 h3
   rw [List.filter_cons,List.filter_cons,h3 x hx]
   split
   ·rw [List.length_cons,List.length_cons]; omega
   ·exact ih
theorem left_eq {n i:Nat} {listed:Array Bool} (hi:i < n) (hsz:listed.size = n) (h:listed.getD i false = false):left n (listed.setIfInBounds i true) + 1 = left n listed:=by
 unfold left
 refine filter_less List.nodup_range (List.mem_range.2 hi) (by rw [h]; rfl) ?_ fun j hj=>?_
 ·simp [Array.getD_eq_getD_getElem?,hsz,hi]
 ·rw [getD_set_ne false (fun e=>hj e.symm)]
theorem mem_lookup:∀ {l:List (Nat × ES)} {m:Nat} {s:ES},l.lookup m = some s → (m,s) ∈ l:=fun h=>mem_of_lookup h
theorem ord_sound (hΓ:ΓOK P Γ) (he:edgesOK ops = true) (hsel:Region.noSelect ops.toArray = true) (hQp:∀ c a w,¬ Q (.panic c) a w) {Af:OA} (hps:∀ p ∈ Af.ps,p.1 = p.2) (hos:∀ p ∈ Af.os,p.1 = p.2) (hob:∀ i o,Af.ob.lookup i = some o → ∀ p ∈ o,p)
  {mf:Nat} {sf:ES} (hf:Af.lv = [(mf,sf)]) (hQ:∀ B F a w (S:Nat → Prop),InvR nt ops F0 w0 B F sf S a w → Q .normal a w) :
  ∀ (r fuel:Nat) (A:OA) (m:Nat) (s:ES) (listed:Array Bool) (B:Env) (F:Fz) (a:Act) (w:World),levels (CX P) (CallsB P) Γ nt orc orb ops fz slots keys r A = some Af → (m,s) ∈ A.lv → listed.size = ops.length →
   (∀ j,j < ops.length → listed.getD j false = m.testBit j) → (∀ j,m.testBit j = true → j < ops.length) → left ops.length listed = r → r ≤ fuel → InvR nt ops F0 w0 B F s (fun j=>m.testBit j = true) a w → wpAny P .any ops.toArray Q fuel listed a w:=by
 have hnone:∀ (listed:Array Bool),listed.size = ops.length → left ops.length listed = 0 → ∀ j,j < ops.length → listed.getD j false = true:=by
  intro listed hsz hl j hj
  cases hc:listed.getD j false with
  | true=>rfl
  | false =>
   have:j ∈ (List.range ops.length).filter fun j=>!(listed.getD j false):=List.mem_filter.2 ⟨List.mem_range.2 hj,by rw [hc]; rfl⟩
   unfold left at hl
   rw [List.length_eq_zero_iff.1 hl] at this
   simp at this
 have hready0:∀ (listed:Array Bool),listed.size = ops.length → (∀ j,j < ops.length → listed.getD j false = true) → Region.ready .any ops.toArray listed = []:=by
  intro listed hsz hall
  apply List.eq_nil_iff_forall_not_mem.2
  intro j hj
  obtain ⟨h1,o,h2,_⟩:=mem_ready.1 hj
  rw [List.getElem?_toArray] at h2
  have hlt:=(List.getElem?_eq_some_iff.1 h2).1
  have h3:=hall j hlt
  have hj':j < listed.size:=by omega
  simp only [Array.getD_eq_getD_getElem?,Array.getElem?_eq_getElem hj',Option.getD_some] at h1 h3
  rw [h3] at h1; cases h1
 intro r
 induction r with
 | zero =>
  intro fuel A m s listed B F a w hl hm hsz hbit hlt hleft hfuel hi
  cases hl
  rw [hf] at hm
  cases List.mem_singleton.1 hm
  have hr:=hready0 listed hsz (hnone listed hsz hleft)
  have hq:=hQ B F a w _ hi
  cases fuel with
  | zero=>exact ⟨hr,hq⟩
  | succ fuel=>exact ⟨fun _=>hq,fun i hi=>by rw [hr] at hi; simp at hi⟩
 | succ r ih =>
  intro fuel A m s listed B F a w hl hm hsz hbit hlt hleft hfuel hi
  unfold levels at hl
  split at hl
  rotate_left
  ·cases hl
  rename_i A1 hA1
  obtain ⟨_,hex⟩:=expand_ok hA1
  have hmp:=levels_mono hl
  obtain ⟨fuel,rfl⟩:∃ f,fuel = f + 1:=⟨fuel - 1,by omega⟩
  have hstep:∀ i o,i < ops.length → ops[i]? = some o → rdy ops m i = true → (takeOf ops m = none ∨ takeOf ops m = some i) →
    if Region.wanted o (yielded ops.toArray a.tmps) = true then o.wp P a w (wpAny P .any ops.toArray Q fuel (listed.setIfInBounds i true)) Q else wpAny P .any ops.toArray Q fuel (listed.setIfInBounds i true) (a.put o.dst undef) w:=by
   intro i o hil h2 hrdy htake
   have hni:m.testBit i = false:=by
    unfold rdy at hrdy
    rw [Bool.and_eq_true] at hrdy
    simpa using hrdy.1
   have hfalse:listed.getD i false = false:=by rw [hbit i hil]; exact hni
   have hA1p:∀ p ∈ A1.ps,p.1 = p.2:=fun p hp=>hps p (hmp.ps p hp)
   have hA1o:∀ p ∈ A1.os,p.1 = p.2:=fun p hp=>hos p (hmp.os p hp)
   obtain ⟨s',hs',hlv,hobl⟩:=hex A1 (.refl _) hA1p hA1o (m,s) hm i hil hrdy htake
   simp only at hs' hlv hobl
   unfold stepE at hs'
   rw [h2] at hs'
   simp only at hs'
   obtain ⟨F1,hi1⟩:=(inv_obl hi []).settles fz (i:=i)
   have hobs:∀ p ∈ s'.obl,p:=hob i _ (hmp.ob i _ hobl)
   have hbit':∀ j,(m ||| 1 <<< i).testBit j = (m.testBit j || decide (i = j)):=by
    intro j
    rw [Nat.testBit_or,Nat.one_shiftLeft,Nat.testBit_two_pow]
   have hst:=step_sound (Q:=Q) (S:=fun j=>m.testBit j = true) (S':=fun j=>(m ||| 1 <<< i).testBit j = true) hΓ hi1 (by rw [hni]; simp) (fun j hj=>by rw [hbit',hj]; rfl) (by rw [hbit']; simp) h2 hs' hobs
    (K:=wpAny P .any ops.toArray Q fuel (listed.setIfInBounds i true)) (fun B' F' a' w' hi'=>by
     refine ih fuel A1 (m ||| 1 <<< i) (normES slots keys ops.length s') _ B' F' a' w' hl (mem_lookup hlv) (by simp [hsz]) (fun j hj=>?_) (fun j hj=>?_) ?_ (by omega) (inv_norm hi' fun j hj=>?_)
     ·rw [hbit']
      by_cases hji:j = i
      ·subst hji
       have hj':j < listed.size:=by omega
       simp [Array.getD_eq_getD_getElem?,hj']
      ·rw [getD_set_ne false (fun e=>hji e.symm),hbit j hj]
       have:decide (i = j) = false:=by simpa using fun e=>hji e.symm
       rw [this,Bool.or_false]
     ·rw [hbit'] at hj
      rw [Bool.or_eq_true] at hj
      rcases hj with h | h
      ·exact hlt j h
      ·have:=of_decide_eq_true h; omega
     ·have:=left_eq hil hsz hfalse; omega
     ·rw [hbit'] at hj
      rw [Bool.or_eq_true] at hj
      rcases hj with h | h
      ·exact hlt j h
      ·have:=of_decide_eq_true h; omega)
   exact hst
  cases htk:takeOf ops m with
  | some i =>
   have hfi:=List.find?_some htk
   have hil:i < ops.length:=List.mem_range.1 (List.mem_of_find?_eq_some htk)
   obtain ⟨o,h2⟩:∃ o,ops[i]? = some o:=⟨_,List.getElem?_eq_getElem hil⟩
   rw [h2] at hfi
   simp only [Bool.and_eq_true] at hfi
   obtain ⟨hmv,hrdy,hfree⟩:=hfi
   have hst:=hstep i o hil h2 hrdy (.inr htk)
   obtain ⟨x,hopx,hg⟩:∃ x,o.op = .move x ∧ o.guard = none:=by
    unfold moveOp at hmv
    split at hmv
    ·rename_i x _ h3 h4 h5; exact ⟨x,h3,h4⟩
    ·cases hmv
   have hw:Region.wanted o (yielded ops.toArray a.tmps) = true:=by simp [Region.wanted,hg]
   have hrun:∀ w,(execOp a.eval o).run P w = .ok (.value (a.eval x)) w:=by
    intro w
    unfold execOp
    simp only [hopx,Sem.run_pure]
   rw [if_pos hw] at hst
   unfold Oper.wp at hst
   rw [hrun] at hst
   have hdef:∀ j,j < ops.length → listed.getD j true = m.testBit j:=by
    intro j hj
    have hj':j < listed.size:=by omega
    rw [← hbit j hj]
    simp only [Array.getD_eq_getD_getElem?,Array.getElem?_eq_getElem hj',Option.getD_some]
   have hni:m.testBit i = false:=by
    unfold rdy at hrdy
    rw [Bool.and_eq_true] at hrdy
    simpa using hrdy.1
   refine wpAny_take (oi:=o) (i:=i) (v:=a.eval x) (by rw [List.getElem?_toArray]; exact h2) hsel ?_ ?_ (fun c a w h=>absurd h (hQp c _ _)) (.inl ⟨hw,hrun⟩) hst
   ·unfold Region.free
    rw [List.getElem?_toArray,h2]
    simp only [List.all_eq_true,List.mem_range]
    intro j hj
    have hj:j < ops.length:=by simpa using hj
    unfold freeB at hfree
    rw [h2] at hfree
    have h5:=List.all_eq_true.1 hfree j (List.mem_range.2 hj)
    rw [hdef j hj,List.getElem?_toArray]
    simp only [Bool.or_eq_true] at h5 ⊢
    rcases h5 with h5 | h5
    ·exact .inl h5
    ·refine .inr ?_
     cases hoj:ops[j]? with
     | none=>rfl
     | some oj =>
      rw [hoj] at h5
      simp only [Bool.or_eq_true] at h5 ⊢
      rcases h5 with h5 | h5
      ·refine .inl ?_
       rw [List.contains_iff_mem] at h5
       unfold onL at h5
       obtain ⟨e,he1,he2⟩:=List.mem_filterMap.1 h5
       split at he2
       ·rename_i hb
        cases he2
        refine Array.any_eq_true'.2 ⟨e,by simpa using he1,by simp [hb]⟩
       ·cases he2
      ·exact .inr h5
   ·rw [List.contains_iff_mem,mem_ready]
    refine ⟨by rw [hdef i hil]; exact hni,o,by rw [List.getElem?_toArray]; exact h2,fun e he1 hb=>?_⟩
    have hz:(o,i) ∈ ops.zipIdx:=List.mem_zipIdx_iff_getElem?.2 h2
    have hon:e.on ∈ onL o:=by
     unfold onL
     exact List.mem_filterMap.2 ⟨e,by simpa using he1,by rw [if_pos hb]⟩
    have hji:e.on < i:=of_decide_eq_true (List.all_eq_true.1 (List.all_eq_true.1 he _ hz) _ hon)
    unfold rdy at hrdy
    rw [h2,Bool.and_eq_true] at hrdy
    have:=List.all_eq_true.1 hrdy.2 _ hon
    rw [hbit e.on (by omega)]
    exact this
  | none =>
  refine ⟨fun hr=>?_,fun i him=>?_⟩
  ·exfalso
   have hall:=all_listed he hr hsz
   have:left ops.length listed = 0:=by
    unfold left
    rw [List.length_eq_zero_iff,List.filter_eq_nil_iff]
    intro j hj
    rw [hall j (List.mem_range.1 hj)]; simp
   omega
  ·obtain ⟨h1,o,h2,h3⟩:=mem_ready.1 him
   rw [List.getElem?_toArray] at h2
   have hil:=(List.getElem?_eq_some_iff.1 h2).1
   have hfalse:listed.getD i false = false:=by
    have hj':i < listed.size:=by omega
    simp only [Array.getD_eq_getD_getElem?,Array.getElem?_eq_getElem hj',Option.getD_some] at h1 ⊢
    exact h1
   have hni:m.testBit i = false:=by rw [← hbit i hil]; exact hfalse
   have hrdy:rdy ops m i = true:=by
    unfold rdy
    rw [hni,h2]
    simp only [Bool.not_false,Bool.true_and]
    rw [List.all_eq_true]
    intro j hj
    have hz:(o,i) ∈ ops.zipIdx:=List.mem_zipIdx_iff_getElem?.2 h2
    have hji:j < i:=of_decide_eq_true (List.all_eq_true.1 (List.all_eq_true.1 he _ hz) j hj)
    unfold onL at hj
    obtain ⟨e,he1,he2⟩:=List.mem_filterMap.1 hj
    split at he2
    ·rename_i hb
     cases he2
     have:=h3 e (by simpa using he1) hb
     rw [hbit e.on (by omega)] at this; exact this
    ·cases he2
   have hst:=hstep i o hil h2 hrdy (.inl htk)
   unfold wpOp
   rw [List.getElem?_toArray,h2]
   simp only
   split
   ·rename_i hw
    rw [if_pos hw] at hst; exact .inl hst
   ·rename_i hw
    rw [if_neg hw] at hst; exact hst
theorem Wp.regionO (hm:P.follows .mixedOrders = true) (hΓ:ΓOK P Γ) {id:Nat} {l:List Oper} {K K':List (Nat × D)} {L L':Boxes} (fz:List (Nat × List Nat)) (orc:List (Nat × D)) (orb:List (Nat × CBd)) (slots keys kk kl:List Nat) {ob:List Prop}
  (h:ordOut l kk kl (evOrd (CX P) (CallsB P) Γ nt orc orb l fz slots keys K L) = some (K',L',ob)) (hp:ordL (evOrd (CX P) (CallsB P) Γ nt orc orb l fz slots keys K L) = ordR (evOrd (CX P) (CallsB P) Γ nt orc orb l fz slots keys K L)) (hob:AllP ob) (hn:To nt F0 w0 K' L' .normal Q) :
  Wp P nt F0 w0 K L (.region id l.toArray true) Q:=by
 have hn:To nt F0 w0 K' L' .normal (nrm Q):=hn
 rintro a w ⟨B,F,hb,hd,hs,hK⟩
 have hQp:∀ c a w,¬ nrm Q (.panic c) a w:=fun _ _ _ h=>h
 cases hA:evOrd (CX P) (CallsB P) Γ nt orc orb l fz slots keys K L with
 | none=>rw [hA] at h; cases h
 | some Af =>
  rw [hA] at h hp
  unfold evOrd at hA
  split at hA
  rotate_left
  ·cases hA
  rename_i hed2
  rw [Bool.and_eq_true,Bool.and_eq_true] at hed2
  obtain ⟨hed2,hnd⟩:=hed2
  have hed:=hed2.1
  unfold ordOut at h
  simp only at h
  split at h
  rotate_left
  ·cases h
  rename_i mf sf hlv
  split at h
  rotate_left
  ·cases h
  rename_i K1 L1 hk hl
  cases h
  simp only [ordL,ordR,Prod.mk.injEq] at hp
  refine region_any_in hm (fun o ho c hc=>by have:=List.all_eq_true.1 hnd o (by simpa using ho); rw [ndB,hc] at this; cases this) ?_
  have hw:({ w with drawn:=w.drawn + 1 }:World) = w.drew:=rfl
  rw [hw]
  have hobs:∀ i o,Af.ob.lookup i = some o → i < l.length → ∀ p ∈ o,p:=by
   intro i o hio hil p hpo
   refine AllP.mem hob p ?_
   unfold oblOf
   exact List.mem_flatMap.2 ⟨i,List.mem_range.2 hil,by rw [hio]; exact hpo⟩
  have hlen:∀ i o,Af.ob.lookup i = some o → ¬ i < l.length → ∀ p ∈ o,p:=by
   intro i o hio hil
   exfalso
   have hkeys:∀ (r:Nat) (A A':OA),levels (CX P) (CallsB P) Γ nt orc orb l fz slots keys r A = some A' → (∀ x ∈ A.ob,x.1 < l.length) → ∀ x ∈ A'.ob,x.1 < l.length:=by
    have h1:∀ (m:Nat) (s:ES) (is:List Nat) (A A':OA),expand1 (CX P) (CallsB P) Γ nt orc orb l fz slots keys m s is A = some A' → (∀ i ∈ is,i < l.length) → (∀ x ∈ A.ob,x.1 < l.length) → ∀ x ∈ A'.ob,x.1 < l.length:=by
     intro m s is
     induction is with
     | nil=>intro A A' h _ hx; cases h; exact hx
     | cons i is ih =>
      intro A A' h his hx
      unfold expand1 at h
      split at h
      ·split at h
       ·refine ih _ _ h (fun j hj=>his j (List.mem_cons_of_mem _ hj)) fun x hxx=>?_
        unfold insO at hxx
        have hS:∀ (m:Nat) (s:ES) (A:OA),(insS m s A).ob = A.ob:=by intro m s A; unfold insS; split <;> rfl
        split at hxx
        ·simp only [hS] at hxx; exact hx x hxx
        ·simp only [hS] at hxx
         rcases List.mem_append.1 hxx with h | h
         ·exact hx x h
         ·rw [List.mem_singleton.1 h]; exact his i List.mem_cons_self
       ·cases h
      ·exact ih _ _ h (fun j hj=>his j (List.mem_cons_of_mem _ hj)) hx
    have h2:∀ (lv:List (Nat × ES)) (A A':OA),expand (CX P) (CallsB P) Γ nt orc orb l fz slots keys lv A = some A' → (∀ x ∈ A.ob,x.1 < l.length) → ∀ x ∈ A'.ob,x.1 < l.length:=by
     intro lv
     induction lv with
     | nil=>intro A A' h hx; cases h; exact hx
     | cons y lv ih =>
      intro A A' h hx
      unfold expand at h
      split at h
      ·rename_i A1 hA1
       exact ih _ _ h (h1 _ _ _ _ _ hA1 (fun i hi=>by
        split at hi
        ·rename_i j hj
         rw [List.mem_singleton.1 hi]
         exact List.mem_range.1 (List.mem_of_find?_eq_some hj)
        ·exact List.mem_range.1 hi) hx)
      ·cases h
    intro r
    induction r with
    | zero=>intro A A' h hx; cases h; exact hx
    | succ r ih =>
     intro A A' h hx
     unfold levels at h
     split at h
     ·rename_i A1 hA1
      exact ih _ _ h (h2 _ _ _ hA1 hx)
     ·cases h
   have hmem:∀ (q:List (Nat × List Prop)) (i:Nat) (o:List Prop),q.lookup i = some o → (i,o) ∈ q:=by
    intro q i o hq
    induction q with
    | nil=>simp at hq
    | cons x q ih =>
     obtain ⟨k,y⟩:=x
     rw [List.lookup_cons] at hq
     split at hq
     ·rename_i he
      have:i = k:=by simpa using he
      cases hq; rw [this]; exact List.mem_cons_self
     ·exact List.mem_cons_of_mem _ (ih hq)
   exact hil (hkeys _ _ _ hA (by simp [startOA]) _ (hmem _ _ _ hio))
  have hsz:l.toArray.size = l.length:=by simp
  rw [hsz]
  have hK':∀ x ∈ K,∃ v,a.tmps[x.1]? = some v ∧ Rep F w.drew B x.2 v:=fun x hx=>by
   obtain ⟨v,h3,h4⟩:=hK x hx
   have hgr:Grow F F w w.drew:=⟨fun _ _ h=>h,fun _ _ _=>rfl⟩
   exact ⟨v,h3,h4.grow hgr⟩
  have hinv:=start_inv (ops:=l) hb.draw hd hs hK'
  have hz:∀ j,(0:Nat).testBit j = false:=fun j=>Nat.zero_testBit j
  have hinv':InvR nt l F0 w0 B F (normES slots keys l.length (startES K L)) (fun j=>(0:Nat).testBit j = true) a w.drew:=by
   refine inv_norm ⟨hinv.base,hinv.defers,hinv.size,hinv.ents,fun e he x hx=>?_,fun e he=>?_,hinv.dsts⟩ fun j hj=>by rw [hz] at hj; cases hj
   ·have:=hinv.keys e he x hx; omega
   ·rcases hinv.srcs e he with h | h
    ·exact .inl h
    ·omega
  refine ord_sound (F0:=F0) (w0:=w0) (Q:=nrm Q) hΓ hed hed2.2 hQp (map_eq_mem hp.1) (map_eq_mem0 hp.2) (fun i o hio=>if hil:i < l.length then hobs i o hio hil else hlen i o hio hil) hlv (fun B' F' a' w' S hi=>hn a' w' (end_inv hi hk hl))
   l.length l.length _ 0 _ (Array.replicate l.length false) B F a w.drew hA List.mem_cons_self (by simp) (fun j hj=>?_) (fun j hj=>by rw [hz] at hj; cases hj) ?_ (Nat.le_refl _) hinv'
  ·rw [hz]; simp only [Array.getD_eq_getD_getElem?,Array.getElem?_replicate]; split <;> rfl
  ·unfold left
   rw [List.filter_eq_self.2]
   ·simp
   ·intro j hj; simp only [Array.getD_eq_getD_getElem?,Array.getElem?_replicate]; split <;> rfl
end
end Go.Proofs.YtibgdilkodjojaaGreatDoor.RX
