import Derived.Test.YtibgdilkodjojaaGreatDoorQRxAny
set_option linter.all false
namespace Go.Proofs.YtibgdilkodjojaaGreatDoor.RX
open Go.RowKit
section
variable {P:Program} {F0:Fz} {w0:Pt P} {B:Env} {F:Fz} {w:World} {a:Act} {Q:Exit → Act → World → Prop} {Γ:Nat → Option TI} {nt:Nat} {ops:List Oper} {L0:Boxes} {orc:List (Nat × D)} {K:List (Nat × D)} {st:Nat → DS}
theorem applyT_filter (k:Nat) (c:List D):∀ (T:List (Nat × Nat × Nat × List D)),applyT k c T = applyT k c (T.filter fun x=>x.2.1 == k)
 | []=>rfl
 | s :: T=>by
  by_cases h:s.2.1 = k
  ·rw [List.filter_cons_of_pos (by simpa using h)]
   simp only [applyT,h,if_true]
   rw [applyT_filter k c T]
  ·rw [List.filter_cons_of_neg (by simpa using h)]
   simp only [applyT,h,if_false]
   exact applyT_filter k c T
theorem applyT_congr {k:Nat} {c:List D} {T T':List (Nat × Nat × Nat × List D)} (h:(T.filter fun x=>x.2.1 == k) = T'.filter fun x=>x.2.1 == k):applyT k c T = applyT k c T':=by
 rw [applyT_filter k c T,applyT_filter k c T',h]
def memS (L0:Boxes) (A T:List (Nat × Nat × Nat × List D)) (N:Option NRow) (S:Nat → Bool):Mem:=fun k t ds =>
 (∃ c0,(((k,t,c0) ∈ L0 ∧ isRowc c0 = false) ∨ ∃ i,S i = true ∧ (i,k,t,c0) ∈ A) ∧ ds = applyT k c0 (T.filter fun x=>S x.1)) ∨
 ((k,t,ds) ∈ L0 ∧ isRowc ds = true ∧ ∀ n,N = some n → n.old = some k → S n.i = false) ∨
 (∃ n,N = some n ∧ S n.i = true ∧ k = n.t ∧ t = n.e ∧ ds = [n.r])
theorem view_mem {s:DS} {k t:Nat} {ds:List D} (h:(k,t,ds) ∈ viewB L0 s):∃ c0,(((k,t,c0) ∈ L0 ∧ isRowc c0 = false) ∨ ∃ i,(i,k,t,c0) ∈ s.A) ∧ ds = applyT k c0 s.T:=by
 unfold viewB at h
 obtain ⟨x,hx,he⟩:=List.mem_map.1 h
 obtain ⟨x1,x2,x3⟩:=x
 cases he
 refine ⟨x3,?_,rfl⟩
 rcases List.mem_append.1 hx with h | h
 ·obtain ⟨h1,h2⟩:=List.mem_filter.1 h
  exact .inl ⟨h1,by simpa using h2⟩
 ·obtain ⟨y,hy,he⟩:=List.mem_map.1 h
  obtain ⟨y1,y2,y3,y4⟩:=y
  cases he
  exact .inr ⟨y1,hy⟩
theorem setCells_flat {ds cs:List D} {off:Nat} (hd:ds.all D.flat = true) (hc:cs.all D.flat = true):(setCells ds off cs).all D.flat = true:=by
 unfold setCells
 simp only [List.all_append,Bool.and_eq_true]
 exact ⟨⟨List.all_eq_true.2 fun x hx=>List.all_eq_true.1 hd x (List.mem_of_mem_take hx),hc⟩,List.all_eq_true.2 fun x hx=>List.all_eq_true.1 hd x (List.mem_of_mem_drop hx)⟩
theorem applyT_flat {k:Nat} {c:List D} (hc:c.all D.flat = true):∀ {T:List (Nat × Nat × Nat × List D)},(∀ x ∈ T,x.2.2.2.all D.flat = true) → (applyT k c T).all D.flat = true
 | [],_=>hc
 | s :: T,h=>by
  unfold applyT
  split
  ·exact setCells_flat (applyT_flat hc fun x hx=>h x (List.mem_cons_of_mem _ hx)) (h s List.mem_cons_self)
  ·exact applyT_flat hc fun x hx=>h x (List.mem_cons_of_mem _ hx)
theorem anc_S {S:Nat → Bool} {i:Nat} (hcl:∀ k o,S k = true → ops[k]? = some o → ∀ j ∈ onL o,S j = true) {o:Oper} (ho:ops[i]? = some o) (hr:∀ j ∈ onL o,S j = true):∀ j ∈ ancL ops i,S j = true:=by
 have key:∀ (l:List Nat) (acc:List Nat),(∀ j ∈ acc,S j = true) → ∀ j ∈ l.foldl (fun acc j=>if (i :: acc).any fun m=>(match ops[m]? with | some o=>(onL o).contains j | none=>false) then j :: acc else acc) acc,S j = true:=by
  intro l
  induction l with
  | nil=>intro acc h j hj; exact h j hj
  | cons q l ih =>
   intro acc h
   simp only [List.foldl_cons]
   refine ih _ ?_
   split
   ·rename_i hany
    intro j hj
    rcases List.mem_cons.1 hj with rfl | hj
    ·obtain ⟨m,hm,hc⟩:=List.any_eq_true.1 hany
     rcases List.mem_cons.1 hm with rfl | hm
     ·rw [ho] at hc
      exact hr _ (by simpa using hc)
     ·cases hom:ops[m]? with
      | none=>rw [hom] at hc; cases hc
      | some om=>rw [hom] at hc; exact hcl m om (h m hm) hom _ (by simpa using hc)
    ·exact h j hj
   ·exact h
 exact key _ [] (by simp)
structure InvD {P:Program} (nt:Nat) (ops:List Oper) (L0:Boxes) (K:List (Nat × D)) (sn:DS) (S:Nat → Bool) (F0:Fz) (w0:Pt P) (B:Env) (F:Fz) (a:Act) (w:World):Prop where
 base:Base F0 w0 B F (memS L0 sn.A sn.T sn.N S) w
 defers:a.defers = w0.defs
 size:a.tmps.size = nt
 old:∀ x ∈ K,(∀ k o,S k = true → ops[k]? = some o → o.dst ≠ some x.1) → ∃ v,a.tmps[x.1]? = some v ∧ Rep F w B x.2 v
 new:∀ e ∈ sn.K,∀ j,e.src = j + 1 → S j = true → EntOK F w B sn.tab a e
 fresh:∀ x ∈ sn.A,S x.1 = false → B x.2.1 = none ∧ ∀ y ∈ sn.T,y.2.1 = x.2.1 → S y.1 = false
 freshN:∀ n,sn.N = some n → S n.i = false → B n.t = none
 closed:∀ k o,S k = true → ops[k]? = some o → ∀ j ∈ onL o,S j = true
variable {S:Nat → Bool} {i:Nat} {o:Oper}
theorem InvD.kr (ht:Trace (CX P) Γ nt orc ops L0 K st) (hi:InvD nt ops L0 K (st ops.length) S F0 w0 B F a w) (ho:ops[i]? = some o) (hS:S i = false) (hr:∀ j ∈ onL o,S j = true) :
  ∀ e ∈ (st i).K.filter (okFor ops i (onL o)),EntOK F w B (st ops.length).tab a e:=by
 have hlt:i < ops.length:=(List.getElem?_eq_some_iff.1 ho).1
 intro e he
 obtain ⟨hm,hok⟩:=List.mem_filter.1 he
 unfold okFor at hok
 obtain ⟨⟨K1,hK1,_⟩,_⟩:=ht.ext (Nat.le_of_lt hlt) (Nat.le_refl _)
 split at hok
 ·rename_i hsrc
  have hst:e ∈ (st 0).K:=by
   obtain ⟨⟨K2,hK2,hK3⟩,_⟩:=ht.ext (Nat.zero_le i) (Nat.le_of_lt hlt)
   rw [hK2] at hm
   rcases List.mem_append.1 hm with h | h
   ·have:=hK3 e h; omega
   ·exact h
  rw [ht.zero] at hst
  obtain ⟨x,hx,rfl⟩:=List.mem_map.1 hst
  have:=hi.old x hx (fun k o' hk ho' hd=>by
   have hz:(o',k) ∈ ops.zipIdx:=List.mem_zipIdx_iff_getElem?.2 ho'
   have h1:=List.all_eq_true.1 hok _ hz
   simp only [Bool.or_eq_true,beq_iff_eq,Bool.not_eq_true',hd,List.contains_iff_mem,beq_self_eq_true,Bool.false_eq_true,or_false] at h1
   rcases h1 with (h1 | h1) | h1
   ·subst h1; rw [hS] at hk; cases hk
   ·cases h1
   ·have:=hi.closed k o' hk ho' i (by simpa using h1); rw [hS] at this; cases this)
  exact ⟨fun _=>this,fun h=>by simp [holds] at h⟩
 ·rename_i hsrc
  have hmem:e ∈ (st ops.length).K:=by rw [hK1]; exact List.mem_append_right _ hm
  exact hi.new e hmem (e.src - 1) (by omega) (hr _ (by simpa using hok))
theorem guard_ok2 {Kr:List Ent} {tab:List (Nat × Bool)} (hE:∀ e ∈ Kr,EntOK F w B tab a e) (hD:∀ e ∈ Kr,∀ j,e.src = j + 1 → (ops[j]?).bind (·.dst) = some e.slot ∧ ∀ b,e.d = .val (.bool b) → tv tab j = b) {g:Cnd} {gd:Option (Nat × Bool)}
  (h:guardCnd ops Kr gd = some g) (ho:o.guard = gd):Region.wanted o (yielded ops.toArray a.tmps) = holds tab g:=by
 unfold guardCnd at h
 split at h
 ·cases h
  simp [Region.wanted,ho,holds]
 ·rename_i j want
  split at h
  ·cases h
  ·rename_i t ht
   split at h
   ·cases h
   ·rename_i e he
    split at h
    ·rename_i hsrc
     obtain ⟨hm,hslot⟩:=find_mem he
     obtain ⟨hd1,hd2⟩:=hD e hm j hsrc
     split at h
     ·rename_i b hb
      cases h
      rw [holds_cons]
      simp only [Region.wanted,ho]
      have hy:yielded ops.toArray a.tmps j = match a.tmps[t]? with | some (.bool b)=>some b | _=>none:=by
       unfold yielded
       simp only [List.getElem?_toArray,ht]
       rfl
      rw [hd2 b hb]
      cases hc:holds tab e.cnd with
      | true =>
       obtain ⟨v,h1,h2⟩:=(hE e hm).1 hc
       rw [hb] at h2; cases h2
       rw [hy,← hslot,h1]
       cases b <;> cases want <;> rfl
      | false =>
       have h1:=(hE e hm).2 hc
       rw [hy,← hslot,h1]
       simp [undef]
     ·cases h
    ·cases h
def setS (S:Nat → Bool) (i:Nat):Nat → Bool:=fun k=>k == i || S k
theorem dst_unique:∀ {l:List Oper},dstsOK l = true → ∀ {j k:Nat} {x y:Oper} {t:Nat},l[j]? = some x → l[k]? = some y → x.dst = some t → y.dst = some t → j = k
 | [],_,j,k,x,y,t,hj,_,_,_=>by simp at hj
 | o :: l,h,j,k,x,y,t,hj,hk,hx,hy=>by
  unfold dstsOK at h
  rw [Bool.and_eq_true] at h
  have key:∀ (z:Oper) (m:Nat),l[m]? = some z → z.dst = some t → o.dst = some t → False:=by
   intro z m hm hz ho
   rw [ho] at h
   simp only at h
   have:=List.all_eq_true.1 h.1 z (List.mem_of_getElem? hm)
   rw [hz] at this; simp at this
  cases j with
  | zero =>
   cases k with
   | zero=>rfl
   | succ k =>
    simp only [List.getElem?_cons_zero,Option.some.injEq] at hj
    subst hj
    exact (key y k (by simpa using hk) hy hx).elim
  | succ j =>
   cases k with
   | zero =>
    simp only [List.getElem?_cons_zero,Option.some.injEq] at hk
    subst hk
    exact (key x j (by simpa using hj) hx hy).elim
   | succ k =>
    exact congrArg (· + 1) (dst_unique h.2 (by simpa using hj) (by simpa using hk) hx hy)
theorem stores_at (ht:Trace (CX P) Γ nt orc ops L0 K st) (hi:InvD nt ops L0 K (st ops.length) S F0 w0 B F a w) (ho:ops[i]? = some o) (hS:S i = false) (hr:∀ j ∈ onL o,S j = true) {k:Nat}
  (hbx:boxOK (onL o) (st i) (some k) = true) (hlater:∀ x ∈ (st ops.length).T,x.2.1 = k → i < x.1 → ∃ o',ops[x.1]? = some o' ∧ i ∈ onL o') (hnot:∀ x ∈ (st ops.length).T,x.1 ≠ i ∨ S i = false) :
  (((st ops.length).T.filter fun x=>S x.1).filter fun x=>x.2.1 == k) = (st i).T.filter fun x=>x.2.1 == k:=by
 have hlt:i < ops.length:=(List.getElem?_eq_some_iff.1 ho).1
 obtain ⟨_,_,⟨T1,hT1,hT2⟩,_⟩:=ht.ext (Nat.le_of_lt hlt) (Nat.le_refl _)
 have hmem:∀ x ∈ T1,x ∈ (st ops.length).T:=fun x hx=>by rw [hT1]; exact List.mem_append_left _ hx
 rw [hT1,List.filter_append,List.filter_append]
 have h1:(T1.filter fun x=>S x.1).filter (fun x=>x.2.1 == k) = []:=by
  rw [List.filter_eq_nil_iff]
  intro x hx
  obtain ⟨hx1,hx2⟩:=List.mem_filter.1 hx
  have hge:=hT2 x hx1
  intro hk
  have hk':x.2.1 = k:=by simpa using hk
  by_cases he:x.1 = i
  ·rw [he,hS] at hx2; cases hx2
  ·obtain ⟨o',ho',hon⟩:=hlater x (hmem x hx1) hk' (by omega)
   have:=hi.closed x.1 o' hx2 ho' i hon
   rw [hS] at this; cases this
 rw [h1,List.nil_append,List.filter_filter]
 apply List.filter_congr
 intro x hx
 cases hk:x.2.1 == k with
 | false=>simp
 | true =>
  simp only [Bool.true_and]
  have h2:=List.all_eq_true.1 hbx x hx
  rw [hk] at h2
  exact hr _ (by simpa using h2)
theorem Reads.boxOf {get:Operand → Option D} {op:Op} {k:Nat} (h:Reads get op k):RX.boxOf get op = some k:=by
 obtain ⟨t,x,off,h1,h2⟩:=h
 rcases h1 with rfl | ⟨y,rfl⟩ <;> simp [RX.boxOf,h2]
theorem InvD.put (ht:Trace (CX P) Γ nt orc ops L0 K st) (hd:dstsOK ops = true) (hi:InvD nt ops L0 K (st ops.length) S F0 w0 B F a w) (ho:ops[i]? = some o) (hr:∀ j ∈ onL o,S j = true)
  {B':Env} {F':Fz} {w':World} (hB:∀ k b,B k = some b → B' k = some b) (hg:Grow F F' w w') (hb:Base F0 w0 B' F' (memS L0 (st ops.length).A (st ops.length).T (st ops.length).N (setS S i)) w')
  (hfresh:∀ x ∈ (st ops.length).A,setS S i x.1 = false → B' x.2.1 = none ∧ ∀ y ∈ (st ops.length).T,y.2.1 = x.2.1 → setS S i y.1 = false) (hfN:∀ n,(st ops.length).N = some n → setS S i n.i = false → B' n.t = none)
  {v:Value} (hv:∀ t,o.dst = some t → t < nt ∧ ∀ e ∈ (st ops.length).K,e.src = i + 1 → (holds (st ops.length).tab e.cnd = true → Rep F' w' B' e.d v) ∧ (holds (st ops.length).tab e.cnd = false → v = undef)) :
  InvD nt ops L0 K (st ops.length) (setS S i) F0 w0 B' F' (a.put o.dst v) w':=by
 have hgood:=ht.good ops.length (Nat.le_refl _)
 have hS:∀ k,setS S i k = true ↔ k = i ∨ S k = true:=by intro k; simp [setS]
 refine ⟨hb,by rw [put_defers]; exact hi.defers,by rw [put_size]; exact hi.size,fun x hx hnd=>?_,fun e he j hj hSj=>?_,hfresh,hfN,fun k o' hk ho' j hj=>?_⟩
 ·obtain ⟨u,h1,h2⟩:=hi.old x hx fun k o' hk ho'=>hnd k o' ((hS k).2 (.inr hk)) ho'
  refine ⟨u,?_,(h2.extB hB).grow hg⟩
  cases hdd:o.dst with
  | none=>exact h1
  | some t=>rw [put_other (fun e=>hnd i o ((hS i).2 (.inl rfl)) ho (by rw [hdd,e]))]; exact h1
 ·obtain ⟨hds,_⟩:=hgood.dsts e he j hj
  by_cases hji:j = i
  ·subst hji
   rw [ho] at hds
   simp only [Option.bind] at hds
   obtain ⟨hnt,hvv⟩:=hv _ hds
   obtain ⟨h1,h2⟩:=hvv e he hj
   rw [hds]
   have hsz:e.slot < a.tmps.size:=by rw [hi.size]; exact hnt
   exact ⟨fun hh=>⟨v,put_same hsz,h1 hh⟩,fun hh=>by rw [put_same hsz,h2 hh]⟩
  ·have hSj':S j = true:=by rcases (hS j).1 hSj with h | h <;> first | exact absurd h hji | exact h
   have h0:=hi.new e he j hj hSj'
   have h1:EntOK F' w' B' (st ops.length).tab a e:=⟨fun hh=>let ⟨u,h2,h3⟩:=h0.1 hh; ⟨u,h2,(h3.extB hB).grow hg⟩,h0.2⟩
   cases hdd:o.dst with
   | none=>exact h1
   | some t =>
    refine h1.put fun e'=>hji ?_
    cases hoj:ops[j]? with
    | none=>rw [hoj] at hds; cases hds
    | some oj =>
     rw [hoj] at hds
     exact dst_unique hd hoj ho hds (by rw [hdd,e'])
 ·rcases (hS k).1 hk with rfl | hk
  ·rw [ho] at ho'; cases ho'
   exact (hS j).2 (.inr (hr j hj))
  ·exact (hS j).2 (.inr (hi.closed k o' hk ho' j hj))
theorem entry_unique (ht:Trace (CX P) Γ nt orc ops L0 K st) (hlt:i < ops.length) {e0:Ent} (h1:(st (i + 1)).K = e0 :: (st i).K):∀ e ∈ (st ops.length).K,e.src = i + 1 → e = e0:=by
 intro e he hs
 obtain ⟨⟨K1,hK1,hK2⟩,_⟩:=ht.ext (show i + 1 ≤ ops.length by omega) (Nat.le_refl _)
 rw [hK1] at he
 rcases List.mem_append.1 he with h | h
 ·have:=hK2 e h; omega
 ·rw [h1] at h
  rcases List.mem_cons.1 h with h | h
  ·exact h
  ·have:=(ht.good i (by omega)).srcs e h; omega
theorem A_at (ht:Trace (CX P) Γ nt orc ops L0 K st) (hlt:i < ops.length) {x} (hx:x ∈ (st ops.length).A) (h:x.1 = i):x ∈ (st (i + 1)).A ∧ x ∉ (st i).A:=by
 obtain ⟨_,⟨A1,hA1,hA2⟩,_⟩:=ht.ext (show i + 1 ≤ ops.length by omega) (Nat.le_refl _)
 rw [hA1] at hx
 refine ⟨?_,fun h2=>?_⟩
 ·rcases List.mem_append.1 hx with h1 | h1
  ·have:=hA2 x h1; omega
  ·exact h1
 ·have:=(ht.good i (by omega)).A x h2; omega
theorem T_at (ht:Trace (CX P) Γ nt orc ops L0 K st) (hlt:i < ops.length) {x} (hx:x ∈ (st ops.length).T) (h:x.1 = i):x ∈ (st (i + 1)).T ∧ x ∉ (st i).T:=by
 obtain ⟨_,_,⟨T1,hT1,hT2⟩,_⟩:=ht.ext (show i + 1 ≤ ops.length by omega) (Nat.le_refl _)
 rw [hT1] at hx
 refine ⟨?_,fun h2=>?_⟩
 ·rcases List.mem_append.1 hx with h1 | h1
  ·have:=hT2 x h1; omega
  ·exact h1
 ·have:=(ht.good i (by omega)).T x h2; omega
theorem N_at (ht:Trace (CX P) Γ nt orc ops L0 K st) {n:NRow} (hn:(st ops.length).N = some n):n.i < ops.length ∧ (st (n.i + 1)).N = some n ∧ (st n.i).N = none:=by
 have hlt:=(ht.good ops.length (Nat.le_refl _)).N n hn
 have h1:(st (n.i + 1)).N = some n:=by
  rcases (ht.ext (show n.i + 1 ≤ ops.length by omega) (Nat.le_refl _)).N.2 n hn with h | ⟨_,h⟩
  ·exact h
  ·omega
 refine ⟨hlt,h1,?_⟩
 cases hm:(st n.i).N with
 | none=>rfl
 | some m =>
  have:=(ht.ext (Nat.le_succ n.i) (by omega)).N.1 m hm
  rw [h1] at this; cases this
  have:=(ht.good n.i (by omega)).N n hm
  omega
theorem memS_same (hA:∀ x ∈ (st ops.length).A,x.1 ≠ i) (hT:∀ x ∈ (st ops.length).T,x.1 ≠ i) (hN:∀ n,(st ops.length).N = some n → n.i ≠ i):∀ k t ds,memS L0 (st ops.length).A (st ops.length).T (st ops.length).N (setS S i) k t ds → memS L0 (st ops.length).A (st ops.length).T (st ops.length).N S k t ds:=by
 rintro k t ds (⟨c0,h,rfl⟩ | ⟨h1,h2,h3⟩ | ⟨n,h1,h2,h3⟩)
 ·refine .inl ⟨c0,h.imp id fun ⟨j,hj,hm⟩=>⟨j,?_,hm⟩,?_⟩
  ·congr 1
   apply List.filter_congr
   intro x hx
   have:=hT x hx
   simp [setS,this]
  ·have:=hA _ hm
   simp only at this
   simpa [setS,this] using hj
 ·refine .inr (.inl ⟨h1,h2,fun n hn hk=>?_⟩)
  have:=h3 n hn hk
  simp [setS] at this
  exact this.2
 ·refine .inr (.inr ⟨n,h1,?_,h3⟩)
  have:=hN n h1
  simpa [setS,this] using h2
theorem freshN_same (hi:InvD nt ops L0 K (st ops.length) S F0 w0 B F a w):∀ n,(st ops.length).N = some n → setS S i n.i = false → B n.t = none:=by
 intro n hn hs
 simp [setS] at hs
 exact hi.freshN n hn hs.2
theorem fresh_same (hi:InvD nt ops L0 K (st ops.length) S F0 w0 B F a w) (hT:∀ x ∈ (st ops.length).T,x.1 ≠ i):∀ x ∈ (st ops.length).A,setS S i x.1 = false → B x.2.1 = none ∧ ∀ y ∈ (st ops.length).T,y.2.1 = x.2.1 → setS S i y.1 = false:=by
 intro x hx hs
 have hs':S x.1 = false:=by simp [setS] at hs; exact hs.2
 obtain ⟨h1,h2⟩:=hi.fresh x hx hs'
 refine ⟨h1,fun y hy hk=>?_⟩
 have:=hT y hy
 simp [setS,this,h2 y hy hk]
theorem keepT {i:Nat} (ht:Trace (CX P) Γ nt orc ops L0 K st) (hlt:i < ops.length) (h:(st (i + 1)).T = (st i).T):∀ x ∈ (st ops.length).T,x.1 ≠ i:=fun x hx he=>by
 obtain ⟨h1,h2⟩:=T_at ht hlt hx he
 rw [h] at h1; exact h2 h1
theorem keepN {i:Nat} (ht:Trace (CX P) Γ nt orc ops L0 K st) (h:(st (i + 1)).N = (st i).N):∀ n,(st ops.length).N = some n → n.i ≠ i:=fun n hn he=>by
 obtain ⟨_,h1,h2⟩:=N_at ht hn
 subst he
 rw [h,h2] at h1; cases h1
theorem keepA {i:Nat} (ht:Trace (CX P) Γ nt orc ops L0 K st) (hlt:i < ops.length) (h:(st (i + 1)).A = (st i).A):∀ x ∈ (st ops.length).A,x.1 ≠ i:=fun x hx he=>by
 obtain ⟨h1,h2⟩:=A_at ht hlt hx he
 rw [h] at h1; exact h2 h1
theorem later_stores (ht:Trace (CX P) Γ nt orc ops L0 K st) (hlt:i < ops.length) {k:Nat} (hin:(i,k) ∈ (st (i + 1)).R ∨ ∃ off cs,(i,k,off,cs) ∈ (st (i + 1)).T) :
  ∀ x ∈ (st ops.length).T,x.2.1 = k → i < x.1 → ∃ o',ops[x.1]? = some o' ∧ i ∈ onL o':=by
 intro x hx hk hlt'
 have hxl:x.1 < ops.length:=(ht.good ops.length (Nat.le_refl _)).T x hx
 have ho':=List.getElem?_eq_getElem hxl
 refine ⟨_,ho',?_⟩
 obtain ⟨g,hg,hs⟩:=ht.inv ho'
 obtain ⟨hx1,hx2⟩:=T_at ht hxl hx rfl
 obtain ⟨_,_,⟨T1,hT1,_⟩,⟨R1,hR1,_⟩,_⟩:=ht.ext (show i + 1 ≤ x.1 by omega) (Nat.le_of_lt hxl)
 cases hs with
 | store k' off cells hg hd hfl hR hbk he hbx hs =>
  rw [hs] at hx1
  rcases List.mem_cons.1 hx1 with h | h
  ·have hkk:k' = k:=by rw [h] at hk; exact hk
   subst hkk
   rcases hin with hin | ⟨off',cs',hin⟩
   ·have:=List.all_eq_true.1 hR (i,k') (by rw [hR1]; exact List.mem_append_right _ hin)
    simpa using this
   ·
    rw [hbk] at hbx
    have:=List.all_eq_true.1 hbx (i,k',off',cs') (by rw [hT1]; exact List.mem_append_right _ hin)
    simpa using this
  ·exact absurd h hx2
 | pick c a b t tc e bc ba bb hop hd hc he hle hsrc ht hec hea heb hs=>rw [hs] at hx1; exact absurd hx1 hx2
 | val d cs t hd ht he hbx hs=>rw [hs] at hx1; exact absurd hx1 hx2
 | call f args r t hd ht hr hna he hbx hs=>rw [hs] at hx1; exact absurd hx1 hx2
 | box ty cells t hg hd ht hfl hK hL hA he hbx hs=>rw [hs] at hx1; exact absurd hx1 hx2
 | fresh e m spec cs r t hd ht he hbx hs=>rw [hs] at hx1; exact absurd hx1 hx2
 | known spec r t hd ht he hbx hs=>rw [hs] at hx1; exact absurd hx1 hx2
 | app e m k spec cs d enc l t hg hd ht hNn hQ hK hL hA he hbx hs=>rw [hs] at hx1; exact absurd hx1 hx2
theorem T_flat (ht:Trace (CX P) Γ nt orc ops L0 K st):∀ x ∈ (st ops.length).T,x.2.2.2.all D.flat = true:=by
 intro x hx
 have hxl:x.1 < ops.length:=(ht.good ops.length (Nat.le_refl _)).T x hx
 obtain ⟨g,hg,hs⟩:=ht.inv (List.getElem?_eq_getElem hxl)
 obtain ⟨hx1,hx2⟩:=T_at ht hxl hx rfl
 cases hs with
 | store k' off cells hg hd hfl hR hbk he hbx hs =>
  rw [hs] at hx1
  rcases List.mem_cons.1 hx1 with h | h
  ·rw [h]; exact hfl
  ·exact absurd h hx2
 | pick c a b t tc e bc ba bb hop hd hc he hle hsrc ht hec hea heb hs=>rw [hs] at hx1; exact absurd hx1 hx2
 | val d cs t hd ht he hbx hs=>rw [hs] at hx1; exact absurd hx1 hx2
 | call f args r t hd ht hr hna he hbx hs=>rw [hs] at hx1; exact absurd hx1 hx2
 | box ty cells t hg hd ht hfl hK hL hA he hbx hs=>rw [hs] at hx1; exact absurd hx1 hx2
 | fresh e m spec cs r t hd ht he hbx hs=>rw [hs] at hx1; exact absurd hx1 hx2
 | known spec r t hd ht he hbx hs=>rw [hs] at hx1; exact absurd hx1 hx2
 | app e m k spec cs d enc l t hg hd ht hNn hQ hK hL hA he hbx hs=>rw [hs] at hx1; exact absurd hx1 hx2
theorem A_flat (ht:Trace (CX P) Γ nt orc ops L0 K st):∀ x ∈ (st ops.length).A,x.2.2.2.all D.flat = true:=by
 intro x hx
 have hxl:x.1 < ops.length:=(ht.good ops.length (Nat.le_refl _)).A x hx
 obtain ⟨g,hg,hs⟩:=ht.inv (List.getElem?_eq_getElem hxl)
 obtain ⟨hx1,hx2⟩:=A_at ht hxl hx rfl
 cases hs with
 | box ty cells t hg hd ht hfl hK hL hA he hbx hs =>
  rw [hs] at hx1
  rcases List.mem_cons.1 hx1 with h | h
  ·rw [h]; exact hfl
  ·exact absurd h hx2
 | store k' off cells hg hd hfl hR hbk he hbx hs=>rw [hs] at hx1; exact absurd hx1 hx2
 | pick c a b t tc e bc ba bb hop hd hc he hle hsrc ht hec hea heb hs=>rw [hs] at hx1; exact absurd hx1 hx2
 | val d cs t hd ht he hbx hs=>rw [hs] at hx1; exact absurd hx1 hx2
 | call f args r t hd ht hr hna he hbx hs=>rw [hs] at hx1; exact absurd hx1 hx2
 | fresh e m spec cs r t hd ht he hbx hs=>rw [hs] at hx1; exact absurd hx1 hx2
 | known spec r t hd ht he hbx hs=>rw [hs] at hx1; exact absurd hx1 hx2
 | app e m k spec cs d enc l t hg hd ht hNn hQ hK hL hA he hbx hs=>rw [hs] at hx1; exact absurd hx1 hx2
theorem N_app (ht:Trace (CX P) Γ nt orc ops L0 K st) {n:NRow} (hn:(st ops.length).N = some n) {k:Nat} (hk:n.old = some k):((st n.i).Q.all fun x=>!(x.2 == k) || (ancL ops n.i).contains x.1) = true:=by
 obtain ⟨hlt,h1,h2⟩:=N_at ht hn
 obtain ⟨g,hg,hs⟩:=ht.inv (List.getElem?_eq_getElem hlt)
 cases hs with
 | app e m k' spec cs d enc l t hg hd ht hNn hQ hK hL hA he hbx hs =>
  rw [hs] at h1
  have h1:=Option.some.inj h1
  rw [← h1] at hk
  cases hk
  exact hQ
 | box ty cells t hg hd ht hfl hK hL hA he hbx hs=>rw [hs] at h1; simp only at h1; rw [h2] at h1; cases h1
 | store k' off cells hg hd hfl hR hbk he hbx hs=>rw [hs] at h1; simp only at h1; rw [h2] at h1; cases h1
 | pick c a b t tc e bc ba bb hop hd hc he hle hsrc ht hec hea heb hs=>rw [hs] at h1; simp only at h1; rw [h2] at h1; cases h1
 | val d cs t hd ht he hbx hs=>rw [hs] at h1; simp only at h1; rw [h2] at h1; cases h1
 | call f args r t hd ht hr hna he hbx hs=>rw [hs] at h1; simp only at h1; rw [h2] at h1; cases h1
 | fresh e m spec cs r t hd ht he hbx hs=>rw [hs] at h1; simp only at h1; rw [h2] at h1; cases h1
 | known spec r t hd ht he hbx hs=>rw [hs] at h1; simp only at h1; rw [h2] at h1; cases h1
theorem rows_at (ht:Trace (CX P) Γ nt orc ops L0 K st) (hi:InvD nt ops L0 K (st ops.length) S F0 w0 B F a w) (ho:ops[i]? = some o) (hS:S i = false) (hr:∀ j ∈ onL o,S j = true) {ks:List Nat} (hks:∀ k ∈ ks,(i,k) ∈ (st (i + 1)).Q) {k t:Nat} {ds:List D}
  (h:(k,t,ds) ∈ viewR L0 (st i) ks (ancL ops i)):memS L0 (st ops.length).A (st ops.length).T (st ops.length).N S k t ds:=by
 have hlt:i < ops.length:=(List.getElem?_eq_some_iff.1 ho).1
 unfold viewR at h
 rcases List.mem_append.1 h with h | h
 ·obtain ⟨h1,h2⟩:=List.mem_filter.1 h
  simp only [Bool.and_eq_true,Bool.not_eq_true',List.contains_iff_mem] at h2
  obtain ⟨⟨h2,h3⟩,h4⟩:=h2
  refine .inr (.inl ⟨h1,h2,fun n hn hk=>?_⟩)
  cases hSn:S n.i with
  | false=>rfl
  | true =>
   exfalso
   rcases (ht.ext (Nat.le_of_lt hlt) (Nat.le_refl _)).N.2 n hn with h5 | ⟨h5,h6⟩
   ·rw [h5] at h3; simp [taken,hk] at h3
   ·have hne:n.i ≠ i:=fun e=>by rw [e,hS] at hSn; cases hSn
    have hq:=N_app ht hn hk
    have h7:(i,k) ∈ (st n.i).Q:=by
     obtain ⟨hl,_,_⟩:=N_at ht hn
     exact (ht.ext (show i + 1 ≤ n.i by omega) (Nat.le_of_lt hl)).Q _ (hks k h4)
    have h8:=List.all_eq_true.1 hq _ h7
    simp only [beq_self_eq_true,Bool.not_true,Bool.false_or,List.contains_iff_mem] at h8
    obtain ⟨hl,_,_⟩:=N_at ht hn
    have h9:=anc_S hi.closed (List.getElem?_eq_getElem hl) (hi.closed n.i _ hSn (List.getElem?_eq_getElem hl)) i h8
    rw [hS] at h9; cases h9
 ·split at h
  ·rename_i n hn
   split at h
   ·rename_i hc
    simp only [Bool.and_eq_true,List.contains_iff_mem] at hc
    rw [List.mem_singleton] at h
    cases h
    exact .inr (.inr ⟨n,(ht.ext (Nat.le_of_lt hlt) (Nat.le_refl _)).N.1 n hn,anc_S hi.closed ho hr _ hc.2,rfl,rfl,rfl⟩)
   ·simp at h
  ·simp at h
theorem viewB_flat (ht:Trace (CX P) Γ nt orc ops L0 K st) (hlt:i ≤ ops.length) (hfl:(L0.all fun x=>isRowc x.2.2 || x.2.2.all D.flat) = true) {k t:Nat} {ds:List D} (h:(k,t,ds) ∈ viewB L0 (st i)):ds.all D.flat = true:=by
 obtain ⟨c0,hc,rfl⟩:=view_mem h
 obtain ⟨_,⟨A1,hA1,_⟩,⟨T1,hT1,_⟩,_⟩:=ht.ext hlt (Nat.le_refl _)
 refine applyT_flat ?_ fun x hx=>T_flat ht x (by rw [hT1]; exact List.mem_append_right _ hx)
 rcases hc with ⟨hc,hr⟩ | ⟨j,hj⟩
 ·have:=List.all_eq_true.1 hfl _ hc
  simpa [hr] using this
 ·exact A_flat ht _ (by rw [hA1]; exact List.mem_append_right _ hj)
theorem A_keys (ht:Trace (CX P) Γ nt orc ops L0 K st) {x y} (hx:x ∈ (st ops.length).A) (hy:y ∈ (st ops.length).A) (h:x.2.1 = y.2.1):x.1 = y.1:=by
 have key:∀ {x y:Nat × Nat × Nat × List D},x ∈ (st ops.length).A → y ∈ (st ops.length).A → x.2.1 = y.2.1 → x.1 < y.1 → False:=by
  intro x y hx hy h hlt
  have hyl:y.1 < ops.length:=(ht.good ops.length (Nat.le_refl _)).A y hy
  obtain ⟨hy1,hy2⟩:=A_at ht hyl hy rfl
  obtain ⟨g,hg,hs⟩:=ht.inv (List.getElem?_eq_getElem hyl)
  have hxi:x ∈ (st y.1).A:=by
   obtain ⟨_,⟨A1,hA1,hA2⟩,_⟩:=ht.ext (Nat.le_of_lt hyl) (Nat.le_refl _)
   rw [hA1] at hx
   rcases List.mem_append.1 hx with h | h
   ·have:=hA2 x h; omega
   ·exact h
  cases hs with
  | box ty cells t hg0 hdt htn hfl hK0 hL0 hA0 he hbx hs =>
   rw [hs] at hy1
   rcases List.mem_cons.1 hy1 with h1 | h1
   ·have:=List.all_eq_true.1 hA0 x hxi
    rw [h,h1] at this
    simp at this
   ·exact absurd h1 hy2
  | pick c a b t tc e bc ba bb hop hd hc he hle hsrc ht hec hea heb hs=>rw [hs] at hy1; exact absurd hy1 hy2
  | val d cs t hd ht he hbx hs=>rw [hs] at hy1; exact absurd hy1 hy2
  | call f args r t hd ht hr hna he hbx hs=>rw [hs] at hy1; exact absurd hy1 hy2
  | store k off cells hg hd hfl hR hbk he hbx hs=>rw [hs] at hy1; exact absurd hy1 hy2
  | fresh e m spec cs r t hd ht he hbx hs=>rw [hs] at hy1; exact absurd hy1 hy2
  | known spec r t hd ht he hbx hs=>rw [hs] at hy1; exact absurd hy1 hy2
  | app e m k spec cs d enc l t hg hd ht hNn hQ hK hL hA he hbx hs=>rw [hs] at hy1; exact absurd hy1 hy2
 rcases Nat.lt_trichotomy x.1 y.1 with h1 | h1 | h1
 ·exact (key hx hy h h1).elim
 ·exact h1
 ·exact (key hy hx h.symm h1).elim
mutual
theorem Rep.noname {F:Fz} {w:World} {B:Env} {t:Nat} (ht:B t = none):∀ {d v},Rep F w B d v → D.names t d = false
 | _,_,.val v hv=>rfl
 | _,_,.str l=>rfl
 | _,_,.own i off b h=>by
  simp only [D.names,beq_eq_false_iff_ne]; intro e; subst e; rw [ht] at h; cases h
 | _,_,.opt i b v h hv=>by
  simp only [D.names,beq_eq_false_iff_ne]; intro e; subst e; rw [ht] at h; cases h
 | _,_,.srow j p n cap h=>by
  simp only [D.names,beq_eq_false_iff_ne]; intro e; subst e; rw [ht] at h; cases h
 | _,_,.mp j b h=>by
  simp only [D.names,beq_eq_false_iff_ne]; intro e; subst e; rw [ht] at h; cases h
 | _,_,.agg ds vs h=>RepL.noname ht h
 | _,_,.tup ds vs h=>RepL.noname ht h
 | _,_,.recsNil d enc p=>rfl
 | _,_,.recs d enc l gb off cap size vs hz h1 h2 h3 hc=>rfl
 | _,_,.el ds vs gb off h h2=>rfl
 | _,_,.fn f ds vs h=>RepL.noname ht h
 | _,_,.row j p n cap h=>by
  simp only [D.names,beq_eq_false_iff_ne]; intro e; subst e; rw [ht] at h; cases h
 | _,_,.rowNil j q h=>by
  simp only [D.names,beq_eq_false_iff_ne]; intro e; subst e; rw [ht] at h; cases h
 | _,_,.elm j n z off b nn cap h=>by
  simp only [D.names,beq_eq_false_iff_ne]; intro e; subst e; rw [ht] at h; cases h
 | _,_,.tree d pre kids l v h=>rfl
 | _,_,.arr d enc l vs hg h=>rfl
 | _,_,.hole v hv=>rfl
theorem RepL.noname {F:Fz} {w:World} {B:Env} {t:Nat} (ht:B t = none):∀ {ds vs},RepL F w B ds vs → D.namess t ds = false
 | _,_,.nil=>rfl
 | _,_,.cons d v ds vs h hs=>by
  simp only [D.namess,Bool.or_eq_false_iff]
  exact ⟨Rep.noname ht h,RepL.noname ht hs⟩
end
theorem Held.noname {k t u:Nat} {ds:List D} (h:Held F w B k t ds) (hu:B u = none):k ≠ u ∧ D.namess u ds = false:=by
 cases h with
 | box _ b vs hB hr hfl hh hnf=>exact ⟨(fun e=>by subst e; rw [hu] at hB; cases hB),hr.noname hu⟩
 | row m d enc l p n cap hB h=>exact ⟨(fun e=>by subst e; rw [hu] at hB; cases hB),rfl⟩
 | map kk ag d enc l b hB h=>exact ⟨(fun e=>by subst e; rw [hu] at hB; cases hB),rfl⟩
 | obj b o S hB=>exact ⟨(fun e=>by subst e; rw [hu] at hB; cases hB),rfl⟩
theorem N_dst (ht:Trace (CX P) Γ nt orc ops L0 K st) {n:NRow} (hn:(st ops.length).N = some n):(ops[n.i]?).bind (·.dst) = some n.t ∧ (∀ y ∈ K,D.names n.t y.2 = false) ∧ (∀ y ∈ L0,y.1 ≠ n.t ∧ D.namess n.t y.2.2 = false):=by
 obtain ⟨hlt,h1,h2⟩:=N_at ht hn
 obtain ⟨g,hg,hs⟩:=ht.inv (List.getElem?_eq_getElem hlt)
 cases hs with
 | app e m k' spec cs d enc l t hg hd htn hNn hQ hK hL hA he hbx hs =>
  rw [hs] at h1
  have h1:=Option.some.inj h1
  have hnt:n.t = t:=by rw [← h1]
  rw [hnt]
  refine ⟨by rw [List.getElem?_eq_getElem hlt]; exact hd,fun y hy=>?_,fun y hy=>?_⟩
  ·obtain ⟨⟨K1,hK1,_⟩,_⟩:=ht.ext (Nat.zero_le n.i) (Nat.le_of_lt hlt)
   have hm:(⟨y.1,0,[],y.2⟩:Ent) ∈ (st n.i).K:=by
    rw [hK1,ht.zero]
    exact List.mem_append_right _ (List.mem_map.2 ⟨y,hy,rfl⟩)
   have:=List.all_eq_true.1 hK _ hm
   simpa using this
  ·have:=List.all_eq_true.1 hL y hy
   simpa using this
 | box ty cells t hg hd ht hfl hK hL hA he hbx hs=>rw [hs] at h1; simp only at h1; rw [h2] at h1; cases h1
 | store k' off cells hg hd hfl hR hbk he hbx hs=>rw [hs] at h1; simp only at h1; rw [h2] at h1; cases h1
 | pick c a b t tc e bc ba bb hop hd hc he hle hsrc ht hec hea heb hs=>rw [hs] at h1; simp only at h1; rw [h2] at h1; cases h1
 | val d cs t hd ht he hbx hs=>rw [hs] at h1; simp only at h1; rw [h2] at h1; cases h1
 | call f args r t hd ht hr hna he hbx hs=>rw [hs] at h1; simp only at h1; rw [h2] at h1; cases h1
 | fresh e m spec cs r t hd ht he hbx hs=>rw [hs] at h1; simp only at h1; rw [h2] at h1; cases h1
 | known spec r t hd ht he hbx hs=>rw [hs] at h1; simp only at h1; rw [h2] at h1; cases h1
theorem A_dst (ht:Trace (CX P) Γ nt orc ops L0 K st) {x:Nat × Nat × Nat × List D} (hx:x ∈ (st ops.length).A):(ops[x.1]?).bind (·.dst) = some x.2.1:=by
 have hxl:x.1 < ops.length:=(ht.good ops.length (Nat.le_refl _)).A x hx
 obtain ⟨g,hg,hs⟩:=ht.inv (List.getElem?_eq_getElem hxl)
 obtain ⟨hx1,hx2⟩:=A_at ht hxl hx rfl
 cases hs with
 | box ty cells t hg hd ht hfl hK hL hA he hbx hs =>
  rw [hs] at hx1
  rcases List.mem_cons.1 hx1 with h | h
  ·rw [List.getElem?_eq_getElem hxl]
   have:x.2.1 = t:=by rw [h]
   rw [this]; exact hd
  ·exact absurd h hx2
 | store k' off cells hg hd hfl hR hbk he hbx hs=>rw [hs] at hx1; exact absurd hx1 hx2
 | pick c a b t tc e bc ba bb hop hd hc he hle hsrc ht hec hea heb hs=>rw [hs] at hx1; exact absurd hx1 hx2
 | val d cs t hd ht he hbx hs=>rw [hs] at hx1; exact absurd hx1 hx2
 | call f args r t hd ht hr hna he hbx hs=>rw [hs] at hx1; exact absurd hx1 hx2
 | fresh e m spec cs r t hd ht he hbx hs=>rw [hs] at hx1; exact absurd hx1 hx2
 | known spec r t hd ht he hbx hs=>rw [hs] at hx1; exact absurd hx1 hx2
 | app e m k spec cs d enc l t hg hd ht hNn hQ hK hL hA he hbx hs=>rw [hs] at hx1; exact absurd hx1 hx2
theorem dst_at (hd:dstsOK ops = true) {i j t:Nat} (hi:(ops[i]?).bind (·.dst) = some t) (hj:(ops[j]?).bind (·.dst) = some t):i = j:=by
 cases hi':ops[i]? with
 | none=>rw [hi'] at hi; cases hi
 | some x =>
  cases hj':ops[j]? with
  | none=>rw [hj'] at hj; cases hj
  | some y =>
   rw [hi'] at hi; rw [hj'] at hj
   exact dst_unique hd hi' hj' hi hj
theorem N_rowc (ht:Trace (CX P) Γ nt orc ops L0 K st) {n:NRow} (hn:(st ops.length).N = some n):∃ (m:Bool) (α:Type) (d:α) (enc:α → List D) (l:List α),n.r = .rowc m d enc l:=by
 obtain ⟨hlt,h1,h2⟩:=N_at ht hn
 obtain ⟨g,hg,hs⟩:=ht.inv (List.getElem?_eq_getElem hlt)
 cases hs with
 | app e m k' spec cs d enc l t hg hd htn hNn hQ hK hL hA he hbx hs =>
  rw [hs] at h1
  have h1:=Option.some.inj h1
  rw [← h1]
  exact ⟨m,_,d,enc,l,rfl⟩
 | box ty cells t hg hd ht hfl hK hL hA he hbx hs=>rw [hs] at h1; simp only at h1; rw [h2] at h1; cases h1
 | store k' off cells hg hd hfl hR hbk he hbx hs=>rw [hs] at h1; simp only at h1; rw [h2] at h1; cases h1
 | pick c a b t tc e bc ba bb hop hd hc he hle hsrc ht hec hea heb hs=>rw [hs] at h1; simp only at h1; rw [h2] at h1; cases h1
 | val d cs t hd ht he hbx hs=>rw [hs] at h1; simp only at h1; rw [h2] at h1; cases h1
 | call f args r t hd ht hr hna he hbx hs=>rw [hs] at h1; simp only at h1; rw [h2] at h1; cases h1
 | fresh e m spec cs r t hd ht he hbx hs=>rw [hs] at h1; simp only at h1; rw [h2] at h1; cases h1
 | known spec r t hd ht he hbx hs=>rw [hs] at h1; simp only at h1; rw [h2] at h1; cases h1
theorem step_any (hΓ:ΓOK P Γ) (hd:dstsOK ops = true) (hfl0:(L0.all fun x=>isRowc x.2.2 || x.2.2.all D.flat) = true) (ht:Trace (CX P) Γ nt orc ops L0 K st) (hobl:∀ p ∈ (st ops.length).obl,p) (hi:InvD nt ops L0 K (st ops.length) S F0 w0 B F a w) (ho:ops[i]? = some o) (hS:S i = false) (hr:∀ j ∈ onL o,S j = true)
  {R:Act → World → Prop} (hR:∀ B' F' a' w',InvD nt ops L0 K (st ops.length) (setS S i) F0 w0 B' F' a' w' → R a' w'):wpOp P ops.toArray Q i R a w:=by
 have hlt:i < ops.length:=(List.getElem?_eq_some_iff.1 ho).1
 obtain ⟨g,hg,hs⟩:=ht.inv ho
 have hE:=hi.kr ht ho hS hr
 have hext:=ht.ext (Nat.le_of_lt hlt) (Nat.le_refl ops.length)
 have hgi:=ht.good i (Nat.le_of_lt hlt)
 have hD:∀ e ∈ (st i).K.filter (okFor ops i (onL o)),∀ j,e.src = j + 1 → (ops[j]?).bind (·.dst) = some e.slot ∧ ∀ b,e.d = .val (.bool b) → tv (st ops.length).tab j = b:=by
  intro e he j hj
  have hm:=(List.mem_filter.1 he).1
  obtain ⟨h1,h2⟩:=hgi.dsts e hm j hj
  have:=hgi.srcs e hm
  exact ⟨h1,fun b hb=>by rw [hext.tab j (by omega)]; exact h2 b hb⟩
 have hgk:=guard_keys hg (fun e he=>hgi.keys e (List.mem_filter.1 he).1) (fun e he=>hgi.srcs e (List.mem_filter.1 he).1)
 have hhold:holds (st ops.length).tab g = holds (st i).tab g:=holds_congr fun x hx=>hext.tab _ (hgk x hx)
 have hw:=guard_ok2 hE hD hg rfl
 unfold wpOp
 rw [List.getElem?_toArray,ho]
 simp only
 rw [hw]
 have hskip:∀ (e0:Ent) (t:Nat),o.dst = some t → t < nt → (st (i + 1)).K = e0 :: (st i).K → e0.cnd = g → (st (i + 1)).T = (st i).T → (st (i + 1)).A = (st i).A → (st (i + 1)).N = (st i).N → holds (st ops.length).tab g = false → R (a.put o.dst undef) w:=by
  intro e0 t hdt htn hK he0 hT hA hN hh
  refine hR B F _ _ (hi.put ht hd ho hr (fun _ _ h=>h) (Grow.refl _ _) (hi.base.sub (memS_same (keepA ht hlt hA) (keepT ht hlt hT) (keepN ht hN))) (fresh_same hi (keepT ht hlt hT)) (freshN_same hi) fun t' ht'=>⟨by rw [hdt] at ht'; cases ht'; exact htn,fun e he hsrc=>?_⟩)
  have:=entry_unique ht hlt hK e he hsrc
  subst this
  exact ⟨fun h=>by rw [he0,hh] at h; (cases h),fun _=>rfl⟩
 have hnew:∀ (e0:Ent) (t:Nat) (v:Value) (F':Fz) (w':World),o.dst = some t → t < nt → (st (i + 1)).K = e0 :: (st i).K → e0.cnd = g → (st (i + 1)).T = (st i).T → (st (i + 1)).A = (st i).A → (st (i + 1)).N = (st i).N → holds (st ops.length).tab g = true → Grow F F' w w' → Base F0 w0 B F' (memS L0 (st ops.length).A (st ops.length).T (st ops.length).N S) w' → Rep F' w' B e0.d v → R (a.put o.dst v) w':=by
  intro e0 t v F' w' hdt htn hK he0 hT hA hN hh hgr hb hv
  refine hR B F' _ _ (hi.put ht hd ho hr (fun _ _ h=>h) hgr (hb.sub (memS_same (keepA ht hlt hA) (keepT ht hlt hT) (keepN ht hN))) (fresh_same hi (keepT ht hlt hT)) (freshN_same hi) fun t' ht'=>⟨by rw [hdt] at ht'; cases ht'; exact htn,fun e he hsrc=>?_⟩)
  have:=entry_unique ht hlt hK e he hsrc
  subst this
  exact ⟨fun _=>hv,fun h=>by rw [he0,hh] at h; (cases h)⟩
 have hrows:(∀ k ∈ keysOf (getOp ((st i).K.filter (okFor ops i (onL o))) g) o.op,(i,k) ∈ (st (i + 1)).Q) → RowsIn (memS L0 (st ops.length).A (st ops.length).T (st ops.length).N S) (viewAt L0 (st i) (keysOf (getOp ((st i).K.filter (okFor ops i (onL o))) g) o.op) (ancL ops i)):=by
  intro hks k t m α d enc l hl
  rcases List.mem_append.1 (mem_of_lookup hl) with h | h
  ·have:=viewB_flat ht (Nat.le_of_lt hlt) hfl0 h
   simp [D.flat] at this
  ·exact rows_at ht hi ho hS hr hks h
 have hview:boxOK (onL o) (st i) (boxOf (getOp ((st i).K.filter (okFor ops i (onL o))) g) o.op) = true → holds (st ops.length).tab g = true → (∀ k ∈ keysOf (getOp ((st i).K.filter (okFor ops i (onL o))) g) o.op,(i,k) ∈ (st (i + 1)).Q) →
   ((∀ k,boxOf (getOp ((st i).K.filter (okFor ops i (onL o))) g) o.op = some k → (i,k) ∈ (st (i + 1)).R ∨ ∃ off cs,(i,k,off,cs) ∈ (st (i + 1)).T)) →
   ∀ k t ds,Reads (getOp ((st i).K.filter (okFor ops i (onL o))) g) o.op k → (viewAt L0 (st i) (keysOf (getOp ((st i).K.filter (okFor ops i (onL o))) g) o.op) (ancL ops i)).lookup k = some (t,ds) → memS L0 (st ops.length).A (st ops.length).T (st ops.length).N S k t ds:=by
  intro hbx hh hks hin k t ds hrd hl
  have hbo:=hrd.boxOf
  rw [hbo] at hbx
  rcases List.mem_append.1 (mem_of_lookup hl) with h | h
  ·obtain ⟨c0,hc,rfl⟩:=view_mem h
   refine .inl ⟨c0,hc.imp id fun ⟨j,hj⟩=>?_,?_⟩
   ·exact applyT_congr (stores_at ht hi ho hS hr hbx (later_stores ht hlt (hin k hbo)) (fun _ _=>.inr hS)).symm
   ·obtain ⟨_,⟨A1,hA1,_⟩,_⟩:=hext
    have hjn:(j,k,t,c0) ∈ (st ops.length).A:=by rw [hA1]; exact List.mem_append_right _ hj
    refine ⟨j,?_,hjn⟩
    cases hSj:S j with
    | true=>rfl
    | false =>
     obtain ⟨hnone,_⟩:=hi.fresh _ hjn hSj
     obtain ⟨ty,x,off,_,hx⟩:=hrd
     have:=getOp_ok hE hh x _ hx
     generalize a.eval x = vx at this
     cases this with
     | own _ _ b hB=>rw [hnone] at hB; cases hB
  ·exact rows_at ht hi ho hS hr hks h
 cases hs with
 | pick c x y t tc e bc ba bb hop hdt hc he hle hsrc htn hec hea heb hs =>
  have hK:(st (i + 1)).K = ⟨t,i + 1,g,.val (.bool (bif bc then ba else bb))⟩ :: (st i).K:=by rw [hs]
  cases hh:holds (st ops.length).tab g with
  | false=>simp only [Bool.false_eq_true,if_false]; exact hskip _ t hdt htn hK rfl (by rw [hs]) (by rw [hs]) (by rw [hs]) hh
  | true =>
   simp only [if_true]
   obtain ⟨hm,hslot⟩:=find_mem he
   have htv:=(hD e hm (e.src - 1) (by omega)).2 bc hec
   obtain ⟨v,hv1,hv2⟩:=(hE e hm).1 (holds_le hle hh)
   rw [hec] at hv2; cases hv2
   have hval:∀ b',bc = b' → ∀ (z:Operand) (bz:Bool),getOp ((st i).K.filter (okFor ops i (onL o))) ((e.src - 1,b') :: g) z = some (.val (.bool bz)) → a.eval z = .bool bz:=by
    intro b' hb' z bz hz
    have hh':holds (st ops.length).tab ((e.src - 1,b') :: g) = true:=by
     rw [holds_cons,hh,htv,hb']; simp
    have:=getOp_ok hE hh' z _ hz
    generalize a.eval z = vz at this
    cases this; rfl
   have hrun:(execOp a.eval o).run P w = .ok (.value (.bool (bif bc then ba else bb))) w:=by
    unfold execOp
    rw [hslot] at hv1
    simp only [hop,hc,eval_tmp hv1,asBool,Sem.run_bind,Sem.run_pure,Result.andThen_ok]
    cases hbc:bc with
    | true=>rw [hval true hbc x ba hea]; rfl
    | false=>rw [hval false hbc y bb heb]; rfl
   left
   unfold Oper.wp
   rw [hrun]
   exact hnew _ t _ F w hdt htn hK rfl (by rw [hs]) (by rw [hs]) (by rw [hs]) hh (Grow.refl _ _) hi.base (.val _ rfl)
 | val d cs t hdt htn he hbx hs =>
  have hK:(st (i + 1)).K = ⟨t,i + 1,g,d⟩ :: (st i).K:=by rw [hs]
  cases hh:holds (st ops.length).tab g with
  | false=>simp only [Bool.false_eq_true,if_false]; exact hskip _ t hdt htn hK rfl (by rw [hs]) (by rw [hs]) (by rw [hs]) hh
  | true =>
   simp only [if_true]
   left
   have hcs:∀ c ∈ cs,c = true:=by
    refine ob_of (tab:=(st i).tab) (g:=g) (obl:=(st i).obl) (fun p hp=>?_) (by rw [← hhold]; exact hh)
    have he1:=(ht.ext (show i + 1 ≤ ops.length by omega) (Nat.le_refl _)).obl p
    refine hobl p (he1 ?_)
    rw [hs]; exact hp
   have hks:∀ k ∈ keysOf (getOp ((st i).K.filter (okFor ops i (onL o))) g) o.op,(i,k) ∈ (st (i + 1)).Q:=fun k hk=>by rw [hs]; exact List.mem_append_left _ (List.mem_map.2 ⟨k,hk,rfl⟩)
   refine wp_val (evOp_sound hΓ hi.base (hrows hks) (getOp_ok hE hh) (hview hbx hh hks fun k hk=>.inl ?_) he hcs) fun v hv=>hnew _ t v F w hdt htn hK rfl (by rw [hs]) (by rw [hs]) (by rw [hs]) hh (Grow.refl _ _) hi.base hv
   rw [hs]; simp only [hk]; exact List.mem_cons_self
 | call f args r t hdt htn hor hna he hbx hs =>
  have hK:(st (i + 1)).K = ⟨t,i + 1,g,r⟩ :: (st i).K:=by rw [hs]
  cases hh:holds (st ops.length).tab g with
  | false=>simp only [Bool.false_eq_true,if_false]; exact hskip _ t hdt htn hK rfl (by rw [hs]) (by rw [hs]) (by rw [hs]) hh
  | true =>
   simp only [if_true]
   left
   have hc:CX P f args r:=by
    have he1:=(ht.ext (show i + 1 ≤ ops.length by omega) (Nat.le_refl _)).obl (holds (st i).tab g = true → CX P f args r) (by rw [hs]; simp)
    exact hobl _ he1 (by rw [← hhold]; exact hh)
   have hnr:∀ k,¬ Reads (getOp ((st i).K.filter (okFor ops i (onL o))) g) o.op k:=by
    intro k hk
    obtain ⟨ty,x,off,h1,h2⟩:=hk
    rcases h1 with h1 | ⟨y,h1⟩
    ·rw [h1] at he; simp only [evOp,evX,evOp0] at he
     repeat' (first | (cases he; done) | (simp only [Option.map] at he) | split at he)
    ·rw [h1] at he; simp only [evOp,evX,evOp0] at he
     repeat' (first | (cases he; done) | (simp only [Option.map] at he) | split at he)
   have hks:∀ k ∈ keysOf (getOp ((st i).K.filter (okFor ops i (onL o))) g) o.op,(i,k) ∈ (st (i + 1)).Q:=fun k hk=>by rw [hs]; exact List.mem_append_left _ (List.mem_map.2 ⟨k,hk,rfl⟩)
   exact wp_call (evOp_sound hΓ hi.base (hrows hks) (getOp_ok hE hh) (fun k _ _ hk _=>absurd hk (hnr k)) he (by simp)) hi.base hna hc fun v w' F' h1 h2 h3=>hnew _ t v F' w' hdt htn hK rfl (by rw [hs]) (by rw [hs]) (by rw [hs]) hh h2 h1 h3
 | known spec r t hdt htn he hbx hs =>
  have hK:(st (i + 1)).K = ⟨t,i + 1,g,r⟩ :: (st i).K:=by rw [hs]
  cases hh:holds (st ops.length).tab g with
  | false=>simp only [Bool.false_eq_true,if_false]; exact hskip _ t hdt htn hK rfl (by rw [hs]) (by rw [hs]) (by rw [hs]) hh
  | true =>
   simp only [if_true]
   left
   have hc:spec r:=by
    have he1:=(ht.ext (show i + 1 ≤ ops.length by omega) (Nat.le_refl _)).obl (holds (st i).tab g = true → spec r) (by rw [hs]; simp)
    exact hobl _ he1 (by rw [← hhold]; exact hh)
   have hnr:∀ k,¬ Reads (getOp ((st i).K.filter (okFor ops i (onL o))) g) o.op k:=by
    intro k hk
    obtain ⟨ty,x,off,h1,h2⟩:=hk
    rcases h1 with h1 | ⟨y,h1⟩
    ·rw [h1] at he; simp only [evOp,evX,evOp0] at he
     repeat' (first | (cases he; done) | (simp only [Option.map] at he) | split at he)
    ·rw [h1] at he; simp only [evOp,evX,evOp0] at he
     repeat' (first | (cases he; done) | (simp only [Option.map] at he) | split at he)
   have hks:∀ k ∈ keysOf (getOp ((st i).K.filter (okFor ops i (onL o))) g) o.op,(i,k) ∈ (st (i + 1)).Q:=fun k hk=>by rw [hs]; exact List.mem_append_left _ (List.mem_map.2 ⟨k,hk,rfl⟩)
   exact wp_known (evOp_sound hΓ hi.base (hrows hks) (getOp_ok hE hh) (fun k _ _ hk _=>absurd hk (hnr k)) he (by simp)) hc fun v h3=>hnew _ t v F w hdt htn hK rfl (by rw [hs]) (by rw [hs]) (by rw [hs]) hh (Grow.refl _ _) hi.base h3
 | fresh e m spec cs r t hdt htn he hbx hs =>
  have hK:(st (i + 1)).K = ⟨t,i + 1,g,r⟩ :: (st i).K:=by rw [hs]
  cases hh:holds (st ops.length).tab g with
  | false=>simp only [Bool.false_eq_true,if_false]; exact hskip _ t hdt htn hK rfl (by rw [hs]) (by rw [hs]) (by rw [hs]) hh
  | true =>
   simp only [if_true]
   left
   have hc:spec r ∧ GoodR r:=by
    have he1:=(ht.ext (show i + 1 ≤ ops.length by omega) (Nat.le_refl _)).obl (holds (st i).tab g = true → spec r ∧ GoodR r) (by rw [hs]; simp)
    exact hobl _ he1 (by rw [← hhold]; exact hh)
   have hcs:∀ c ∈ cs,c = true:=by
    refine ob_of (tab:=(st i).tab) (g:=g) (obl:=(st i).obl) (fun p hp=>?_) (by rw [← hhold]; exact hh)
    have he1:=(ht.ext (show i + 1 ≤ ops.length by omega) (Nat.le_refl _)).obl p
    refine hobl p (he1 ?_)
    rw [hs]; exact List.mem_append_left _ hp
   have hnr:∀ k,¬ Reads (getOp ((st i).K.filter (okFor ops i (onL o))) g) o.op k:=by
    intro k hk
    obtain ⟨ty,x,off,h1,h2⟩:=hk
    rcases h1 with h1 | ⟨y,h1⟩
    ·rw [h1] at he; simp only [evOp,evX,evOp0] at he
     repeat' (first | (cases he; done) | (simp only [Option.map] at he) | split at he)
    ·rw [h1] at he; simp only [evOp,evX,evOp0] at he
     repeat' (first | (cases he; done) | (simp only [Option.map] at he) | split at he)
   have hks:∀ k ∈ keysOf (getOp ((st i).K.filter (okFor ops i (onL o))) g) o.op,(i,k) ∈ (st (i + 1)).Q:=fun k hk=>by rw [hs]; exact List.mem_append_left _ (List.mem_map.2 ⟨k,hk,rfl⟩)
   exact wp_fresh (evOp_sound hΓ hi.base (hrows hks) (getOp_ok hE hh) (fun k _ _ hk _=>absurd hk (hnr k)) he hcs) hi.base hc.1 hc.2 fun v w' F' h1 h2 h3=>hnew _ t v F' w' hdt htn hK rfl (by rw [hs]) (by rw [hs]) (by rw [hs]) hh h2 h1 h3
 | app e m k spec cs d enc l t hg0 hdt htn hN0 hQ0 hK0 hL0 hA0 he hbx hs =>
  subst hg0
  have hh:holds (st ops.length).tab [] = true:=rfl
  simp only [hh,if_true]
  left
  have hK:(st (i + 1)).K = ⟨t,i + 1,[],.row t⟩ :: (st i).K:=by rw [hs]
  have hA:(st (i + 1)).A = (st i).A:=by rw [hs]
  have hT:(st (i + 1)).T = (st i).T:=by rw [hs]
  have hTn:=keepT ht hlt hT
  have hAn:=keepA ht hlt hA
  have hNf:(st ops.length).N = some ⟨i,some k,t,e,.rowc m d enc l⟩:=(ht.ext (show i + 1 ≤ ops.length by omega) (Nat.le_refl _)).N.1 _ (by rw [hs])
  have hnone:B t = none:=hi.freshN _ hNf hS
  have hc:spec (.recs d enc l) ∧ GoodR (.recs d enc l):=by
   refine hobl _ ((ht.ext (show i + 1 ≤ ops.length by omega) (Nat.le_refl _)).obl _ ?_)
   rw [hs]; exact List.mem_append_right _ (List.mem_singleton.2 rfl)
  have hcs:∀ c ∈ cs,c = true:=by
   refine ob_of (tab:=(st i).tab) (g:=[]) (obl:=(st i).obl) (fun p hp=>?_) rfl
   have he1:=(ht.ext (show i + 1 ≤ ops.length by omega) (Nat.le_refl _)).obl p
   refine hobl p (he1 ?_)
   rw [hs]; exact List.mem_append_left _ hp
  have hnr:∀ k,¬ Reads (getOp ((st i).K.filter (okFor ops i (onL o))) []) o.op k:=by
   intro k hk
   obtain ⟨ty,x,off,h1,h2⟩:=hk
   rcases h1 with h1 | ⟨y,h1⟩
   ·rw [h1] at he; simp only [evOp,evX,evOp0] at he
    repeat' (first | (cases he; done) | (simp only [Option.map] at he) | split at he)
   ·rw [h1] at he; simp only [evOp,evX,evOp0] at he
    repeat' (first | (cases he; done) | (simp only [Option.map] at he) | split at he)
  have hks:∀ k ∈ keysOf (getOp ((st i).K.filter (okFor ops i (onL o))) []) o.op,(i,k) ∈ (st (i + 1)).Q:=fun k hk=>by rw [hs]; exact List.mem_append_left _ (List.mem_map.2 ⟨k,hk,rfl⟩)
  have hext':∀ r k b,B k = some b → setB B t r k = some b:=by
   intro r k b hk
   by_cases hkt:k = t
   ·subst hkt; rw [hnone] at hk; cases hk
   ·rw [setB_ne _ _ _ _ hkt]; exact hk
  have hold:∃ (tt:Nat) (α:Type) (d:α) (enc:α → List D) (l:List α),memS L0 (st ops.length).A (st ops.length).T (st ops.length).N S k tt [.rowc m d enc l]:=by
   obtain ⟨tt,α',d',enc',l',hm⟩:=row_old he rfl
   rcases List.mem_append.1 hm with h | h
   ·have:=viewB_flat ht (Nat.le_of_lt hlt) hfl0 h
    simp [D.flat] at this
   ·exact ⟨tt,α',d',enc',l',rows_at ht hi ho hS hr hks h⟩
  refine wp_row (evOp_sound hΓ hi.base (hrows hks) (getOp_ok hE hh) (fun k _ _ hk _=>absurd hk (hnr k)) he hcs) hi.base hc.1 hc.2 (t:=t) (ht:=htn.2) (M':=fun k' t' ds=>memS L0 (st ops.length).A (st ops.length).T (st ops.length).N S k' t' ds ∧ k' ≠ k)
   (fun k' hk'=>by cases hk'; exact hold) (fun k' t' ds hm=>?_) fun v w' F' r h1 h2 h3=>?_
  ·have:=(hi.base.boxes _ _ _ hm.1).noname hnone
   exact ⟨hm.1,this.1,fun e=>hm.2 (Option.some.inj e),this.2⟩
  refine hR _ F' _ _ (hi.put ht hd ho hr (hext' r) h2 (h1.sub ?_) ?_ ?_ fun t' ht'=>⟨by rw [hdt] at ht'; cases ht'; exact htn.1,fun e he hsrc=>?_⟩)
  ·have hTT:((st ops.length).T.filter fun x=>setS S i x.1) = (st ops.length).T.filter fun x=>S x.1:=by
    apply List.filter_congr
    intro x hx
    have:=hTn x hx
    simp [setS,this]
   rintro k' t' ds (⟨c0,h,rfl⟩ | ⟨h4,h5,h6⟩ | ⟨n,h4,h5,h6,h7,h8⟩)
   ·rw [hTT]
    have hm:memS L0 (st ops.length).A (st ops.length).T (st ops.length).N S k' t' (applyT k' c0 ((st ops.length).T.filter fun x=>S x.1)):=by
     refine .inl ⟨c0,h.imp id fun ⟨j,hj,hm⟩=>⟨j,?_,hm⟩,rfl⟩
     have:=hAn _ hm
     simp only at this
     simpa [setS,this] using hj
    refine .inr ⟨hm,fun hkk=>?_⟩
    subst hkk
    obtain ⟨tt,α',d',enc',l',hm2⟩:=hold
    obtain ⟨p,n,cap,hB,_⟩:=hi.base.row' hm2
    have hflat:(applyT k' c0 ((st ops.length).T.filter fun x=>S x.1)).all D.flat = true:=by
     refine applyT_flat ?_ fun x hx=>T_flat ht x (List.mem_filter.1 hx).1
     rcases h with ⟨h,hrc⟩ | ⟨j,_,h⟩
     ·have:=List.all_eq_true.1 hfl0 _ h
      simpa [hrc] using this
     ·exact A_flat ht _ h
    have hheld:=hi.base.boxes _ _ _ hm
    generalize applyT k' c0 ((st ops.length).T.filter fun x=>S x.1) = ds at hheld hflat
    cases hheld with
    | box _ b vs hB' hr hfl hh hnf=>rw [hB] at hB'; cases hB'
    | row m d enc l p n cap hB' h=>simp [D.flat] at hflat
    | map kk ag d enc l b hB' h=>simp [D.flat] at hflat
    | obj b o S hB'=>simp [D.flat] at hflat
   ·refine .inr ⟨.inr (.inl ⟨h4,h5,fun n hn hk'=>?_⟩),fun hkk=>?_⟩
    ·rw [hNf] at hn; cases hn; exact hS
    ·subst hkk
     have:=h6 _ hNf rfl
     simp [setS] at this
   ·rw [hNf] at h4; cases h4
    exact .inl ⟨h6,h7,h8⟩
  ·intro x hx hsx
   have hx1:x.1 ≠ i ∧ S x.1 = false:=by simp [setS] at hsx; exact hsx
   obtain ⟨h4,h5⟩:=hi.fresh x hx hx1.2
   refine ⟨?_,fun y hy hk=>?_⟩
   ·rw [setB_ne _ _ _ _ fun e=>hx1.1 (dst_at hd (A_dst ht hx) (by rw [ho,e]; exact hdt))]; exact h4
   ·have:=hTn y hy
    simp [setS,this,h5 y hy hk]
  ·intro n hn hsn
   rw [hNf] at hn; cases hn
   simp [setS] at hsn
  ·have:=entry_unique ht hlt hK e he hsrc
   subst this
   exact ⟨fun _=>h3,fun h=>by cases h⟩
 | box ty cells t hg0 hdt htn hfl hK0 hL0 hA0 he hbx hs =>
  subst hg0
  have hh:holds (st ops.length).tab [] = true:=rfl
  simp only [hh,if_true]
  left
  have hK:(st (i + 1)).K = ⟨t,i + 1,[],.own t 0⟩ :: (st i).K:=by rw [hs]
  have hA:(st (i + 1)).A = (i,t,ty,cells) :: (st i).A:=by rw [hs]
  have hT:(st (i + 1)).T = (st i).T:=by rw [hs]
  have hTn:=keepT ht hlt hT
  have hin:(i,t,ty,cells) ∈ (st ops.length).A:=by
   obtain ⟨_,⟨A1,hA1,_⟩,_⟩:=ht.ext (show i + 1 ≤ ops.length by omega) (Nat.le_refl _)
   rw [hA1,hA]; exact List.mem_append_right _ List.mem_cons_self
  obtain ⟨hnone,hnost⟩:=hi.fresh _ hin hS
  have hB':=setB_ne B t (.box w.heap.size)
  have hext':∀ k b,B k = some b → setB B t (.box w.heap.size) k = some b:=by
   intro k b hk
   by_cases hkt:k = t
   ·subst hkt; rw [hnone] at hk; cases hk
   ·rw [hB' k hkt]; exact hk
  have hnr:∀ k,¬ Reads (getOp ((st i).K.filter (okFor ops i (onL o))) []) o.op k:=by
   intro k hk
   obtain ⟨ty',x,off,h1,h2⟩:=hk
   rcases h1 with h1 | ⟨y,h1⟩
   ·rw [h1] at he; simp only [evOp,evX,evOp0] at he
    repeat' (first | (cases he; done) | (simp only [Option.map] at he) | split at he)
   ·rw [h1] at he; simp only [evOp,evX,evOp0] at he
    repeat' (first | (cases he; done) | (simp only [Option.map] at he) | split at he)
  have hks:∀ k ∈ keysOf (getOp ((st i).K.filter (okFor ops i (onL o))) []) o.op,(i,k) ∈ (st (i + 1)).Q:=fun k hk=>by rw [hs]; exact List.mem_append_left _ (List.mem_map.2 ⟨k,hk,rfl⟩)
  have hNn:=keepN ht (i:=i) (by rw [hs])
  have hkey:∀ k t' ds,memS L0 (st ops.length).A (st ops.length).T (st ops.length).N S k t' ds → k ≠ t:=fun k t' ds hm=>((hi.base.boxes _ _ _ hm).noname hnone).1
  refine wp_box (evOp_sound hΓ hi.base (hrows hks) (getOp_ok hE hh) (fun k _ _ hk _=>absurd hk (hnr k)) he (by simp)) hi.base hfl (setB_self B t (.box w.heap.size)) (fun k hk=>setB_ne _ _ _ _ (by have:=htn.2; unfold LIM at hk; omega)) (M':=memS L0 (st ops.length).A (st ops.length).T (st ops.length).N S)
   (fun F w vs hr=>hr.extB hext') (fun k t' ds hm=>⟨hm,hkey k t' ds hm,hB' k (hkey k t' ds hm),fun F w vs hr=>hr.extB hext'⟩) fun w' h1 h2=>?_
  refine hR _ F _ _ (hi.put ht hd ho hr hext' h2 (h1.sub ?_) ?_ ?_ fun t' ht'=>⟨by rw [hdt] at ht'; cases ht'; exact htn.1,fun e he hsrc=>?_⟩)
  ·have hTT:((st ops.length).T.filter fun x=>setS S i x.1) = (st ops.length).T.filter fun x=>S x.1:=by
    apply List.filter_congr
    intro x hx
    have:=hTn x hx
    simp [setS,this]
   rintro k t' ds (⟨c0,h,rfl⟩ | ⟨h4,h5,h6⟩ | ⟨n,h4,h5,h6⟩)
   ·rw [hTT]
    rcases h with h | ⟨j,hj,h⟩
    ·exact .inr (.inl ⟨c0,.inl h,rfl⟩)
    ·by_cases hji:j = i
     ·subst hji
      obtain ⟨h3,h4⟩:=A_at ht hlt h rfl
      rw [hA] at h3
      rcases List.mem_cons.1 h3 with h3 | h3
      ·cases h3
       refine .inl ⟨rfl,rfl,?_⟩
       rw [applyT_filter]
       have:(((st ops.length).T.filter fun x=>S x.1).filter fun x=>x.2.1 == t) = []:=by
        rw [List.filter_eq_nil_iff]
        intro x hx
        obtain ⟨hx1,hx2⟩:=List.mem_filter.1 hx
        intro hk
        have:=hnost x hx1 (by simpa using hk)
        rw [this] at hx2; cases hx2
       rw [this]; rfl
      ·exact absurd h3 h4
     ·exact .inr (.inl ⟨c0,.inr ⟨j,by simpa [setS,hji] using hj,h⟩,rfl⟩)
   ·refine .inr (.inr (.inl ⟨h4,h5,fun n hn hk=>?_⟩))
    have:=h6 n hn hk
    simp [setS] at this
    exact this.2
   ·refine .inr (.inr (.inr ⟨n,h4,?_,h6⟩))
    have:=hNn n h4
    simpa [setS,this] using h5
  ·intro x hx hsx
   have hx1:x.1 ≠ i ∧ S x.1 = false:=by simp [setS] at hsx; exact hsx
   obtain ⟨h3,h4⟩:=hi.fresh x hx hx1.2
   refine ⟨?_,fun y hy hk=>?_⟩
   ·rw [hB' _ (fun e=>hx1.1 (A_keys ht hx hin e))]; exact h3
   ·have:=hTn y hy
    simp [setS,this,h4 y hy hk]
  ·intro n hn hsn
   rw [hB' _ (fun e=>hNn n hn (dst_at hd (N_dst ht hn).1 (by rw [ho,e]; exact hdt)))]
   exact freshN_same hi n hn hsn
  ·have:=entry_unique ht hlt hK e he hsrc
   subst this
   exact ⟨fun _=>.own _ _ _ (setB_self _ _ _),fun h=>by cases h⟩
 | store k off cells hg0 hdt hfl hR0 hbk he hbx hs =>
  subst hg0
  have hh:holds (st ops.length).tab [] = true:=rfl
  simp only [hh,if_true]
  left
  have hK:(st (i + 1)).K = (st i).K:=by rw [hs]
  have hA:(st (i + 1)).A = (st i).A:=by rw [hs]
  have hT:(st (i + 1)).T = (i,k,off,cells) :: (st i).T:=by rw [hs]
  have hAn:=keepA ht hlt hA
  have hNn:=keepN ht (i:=i) (by rw [hs])
  have hks:∀ k ∈ keysOf (getOp ((st i).K.filter (okFor ops i (onL o))) []) o.op,(i,k) ∈ (st (i + 1)).Q:=fun k hk=>by rw [hs]; exact List.mem_append_left _ (List.mem_map.2 ⟨k,hk,rfl⟩)
  have hin:(i,k,off,cells) ∈ (st (i + 1)).T:=by rw [hT]; exact List.mem_cons_self
  have hat:∀ x ∈ (st ops.length).T,x.1 = i → x = (i,k,off,cells):=by
   intro x hx he'
   obtain ⟨h3,h4⟩:=T_at ht hlt hx he'
   rw [hT] at h3
   exact (List.mem_cons.1 h3).resolve_right h4
  have hstores:=stores_at ht hi ho hS hr (by rw [hbk] at hbx; exact hbx) (later_stores ht hlt (.inr ⟨_,_,hin⟩)) (fun _ _=>.inr hS)
  refine wp_store (evOp_sound hΓ hi.base (hrows hks) (getOp_ok hE hh) (hview hbx hh hks fun k' hk'=>by rw [hbk] at hk'; cases hk'; exact .inr ⟨_,_,hin⟩) he (by simp)) hi.base hfl fun w' h1 h2=>?_
  refine hR B F _ _ (hi.put ht hd ho hr (fun _ _ h=>h) h2 (h1.sub ?_) ?_ (freshN_same hi) fun t' ht'=>by rw [hdt] at ht'; cases ht')
  ·rintro k' t' ds (⟨c0,h,rfl⟩ | ⟨h4,h5,h6⟩ | ⟨n,h4,h5,h6,h7,h8⟩)
   rotate_left
   ·have hm:memS L0 (st ops.length).A (st ops.length).T (st ops.length).N S k' t' ds:=by
     refine .inr (.inl ⟨h4,h5,fun n hn hk=>?_⟩)
     have:=h6 n hn hk
     simp [setS] at this
     exact this.2
    refine ⟨ds,hm,?_⟩
    rw [if_neg]
    intro hkk
    subst hkk
    obtain ⟨b,t0,ds0,vs0,us0,hBk,_⟩:=evOp_sound hΓ hi.base (hrows hks) (getOp_ok hE hh) (hview hbx hh hks fun k' hk'=>by rw [hbk] at hk'; cases hk'; exact .inr ⟨_,_,hin⟩) he (by simp)
    have hheld:=hi.base.boxes _ _ _ hm
    cases hheld with
    | box _ b vs hB' hr hfl hh hnf =>
     unfold isRowc at h5
     split at h5
     ·simp [D.flat] at hfl
     ·cases h5
    | row m d enc l p n cap hB' h=>rw [hBk] at hB'; cases hB'
    | map kk ag d enc l b hB' h=>simp [isRowc] at h5
    | obj b o S hB'=>simp [isRowc] at h5
   ·have hSn:S n.i = true:=by
     have:=hNn n h4
     simpa [setS,this] using h5
    have hm:memS L0 (st ops.length).A (st ops.length).T (st ops.length).N S k' t' ds:=.inr (.inr ⟨n,h4,hSn,h6,h7,h8⟩)
    refine ⟨ds,hm,?_⟩
    rw [if_neg]
    intro hkk
    subst hkk
    obtain ⟨b,t0,ds0,vs0,us0,hBk,_⟩:=evOp_sound hΓ hi.base (hrows hks) (getOp_ok hE hh) (hview hbx hh hks fun k' hk'=>by rw [hbk] at hk'; cases hk'; exact .inr ⟨_,_,hin⟩) he (by simp)
    obtain ⟨m,α,d,enc,l,hnr⟩:=N_rowc ht h4
    have hheld:=hi.base.boxes _ _ _ hm
    rw [h8,hnr] at hheld
    generalize hds:[D.rowc m d enc l] = ds1 at hheld
    cases hheld with
    | box _ b vs hB' hr hfl hh hnf=>subst hds; simp [D.flat] at hfl
    | row m d enc l p n cap hB' h=>rw [hBk] at hB'; cases hB'
    | map kk ag d enc l b hB' h=>cases hds
    | obj b o S hB'=>cases hds
   refine ⟨applyT k' c0 ((st ops.length).T.filter fun x=>S x.1),.inl ⟨c0,h.imp id fun ⟨j,hj,hm⟩=>⟨j,?_,hm⟩,rfl⟩,?_⟩
   ·by_cases hkk:k' = k
    ·subst hkk
     simp only [if_true]
     rw [applyT_congr (T':=(st i).T) hstores]
     have:applyT k' c0 ((i,k',off,cells) :: (st i).T) = setCells (applyT k' c0 (st i).T) off cells:=by simp [applyT]
     rw [← this]
     apply applyT_congr
     obtain ⟨_,_,⟨T1,hT1,hT2⟩,_⟩:=ht.ext (show i + 1 ≤ ops.length by omega) (Nat.le_refl _)
     rw [hT1,hT,List.filter_append,List.filter_append]
     have h5:(T1.filter fun x=>setS S i x.1).filter (fun x=>x.2.1 == k') = []:=by
      rw [List.filter_eq_nil_iff]
      intro x hx hk
      obtain ⟨hx1,hx2⟩:=List.mem_filter.1 hx
      have hge:=hT2 x hx1
      obtain ⟨o',ho',hon⟩:=later_stores ht hlt (.inr ⟨_,_,hin⟩) x (by rw [hT1]; exact List.mem_append_left _ hx1) (by simpa using hk) (by omega)
      have hne:x.1 ≠ i:=by omega
      have hSx:S x.1 = true:=by simpa [setS,hne] using hx2
      have:=hi.closed x.1 o' hSx ho' i hon
      rw [hS] at this; cases this
     rw [h5,List.nil_append,List.filter_filter]
     apply List.filter_congr
     intro x hx
     cases hk:x.2.1 == k' with
     | false=>simp
     | true =>
      simp only [Bool.true_and]
      rcases List.mem_cons.1 hx with rfl | hx
      ·simp [setS]
      ·rw [hbk] at hbx
       have h6:=List.all_eq_true.1 hbx x hx
       rw [hk] at h6
       have:=hr x.1 (by simpa using h6)
       simp [setS,this]
    ·simp only [hkk,if_false]
     apply applyT_congr
     rw [List.filter_filter,List.filter_filter]
     apply List.filter_congr
     intro x hx
     by_cases hxi:x.1 = i
     ·have:=hat x hx hxi
      have hne:(x.2.1 == k') = false:=by rw [this]; simp; exact fun e=>hkk e.symm
      simp [hne]
     ·have h7:(x.1 == i) = false:=by simpa using hxi
      simp only [setS,h7,Bool.false_or]
   ·have:=hAn _ hm
    simp only at this
    simpa [setS,this] using hj
  ·intro x hx hsx
   have hx1:x.1 ≠ i ∧ S x.1 = false:=by simp [setS] at hsx; exact hsx
   obtain ⟨h3,h4⟩:=hi.fresh x hx hx1.2
   refine ⟨h3,fun y hy hk=>?_⟩
   by_cases hyi:y.1 = i
   ·exfalso
    have hy':=hat y hy hyi
    have hkx:x.2.1 = k:=by rw [← hk,hy']
    obtain ⟨b,t0,ds0,vs0,us0,hBk,_⟩:=evOp_sound hΓ hi.base (hrows hks) (getOp_ok hE hh) (hview hbx hh hks fun k' hk'=>by rw [hbk] at hk'; cases hk'; exact .inr ⟨_,_,hin⟩) he (by simp)
    rw [hkx,hBk] at h3; cases h3
   ·simp [setS,hyi,h4 y hy hk]
end
end Go.Proofs.YtibgdilkodjojaaGreatDoor.RX
