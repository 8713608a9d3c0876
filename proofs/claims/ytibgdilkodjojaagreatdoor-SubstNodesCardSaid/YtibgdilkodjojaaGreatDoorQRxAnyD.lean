import Derived.Test.YtibgdilkodjojaaGreatDoorQRxAnyC
set_option linter.all false
namespace Go.Proofs.YtibgdilkodjojaaGreatDoor.RX
open Go.RowKit
def sufOK (l:List Oper) (n:Nat):Bool:=l.zipIdx.all fun x=>decide (x.2 < n) || (List.range x.2).all fun j=>(ancL l x.2).contains j
def guardsIn (l:List Oper) (n:Nat):Bool:=l.all fun o=>match o.guard with | some g=>decide (g.1 < n) | none=>true
def midK (pre:List Oper) (K:List Ent):List Ent:=K.filter fun e=>e.src != 0 || pre.all fun o=>!(o.dst == some e.slot)
section
variable (C:Nat → List D → D → Prop) (CB:Nat → List D → Boxes → D → Boxes → Prop) (Γ:Nat → Option TI) (nt:Nat) (orc:List (Nat × D)) (orb:List (Nat × CBd)) (ops:List Oper)
def evRegionS (n:Nat) (fz:List (Nat × List Nat)) (L0:Boxes) (K:List (Nat × D)) (kk kl:List Nat):Option (List (Nat × D) × Boxes × List Prop) :=
 if dstsOK (ops.take n) && edgesOK ops && edgesOK (ops.take n) && sufOK ops n && guardsIn (ops.take n) n && decide (n ≤ ops.length) && (L0.all fun x=>isRowc x.2.2 || x.2.2.all D.flat) then
  match evOpsD C Γ nt orc (ops.take n) L0 (ops.take n) 0 (startDS K) with
  | some s =>
   match evOps C CB Γ nt orc orb ops fz (ops.drop n) n { K:=midK (ops.take n) s.K,L:=viewD L0 s,tab:=s.tab,obl:=s.obl } with
   | some s'=>match keepK s'.K kk,keepL s'.L kl with | some K',some L'=>some (K',L',s'.obl) | _,_=>none
   | none=>none
  | none=>none
 else none
end
section
variable {P:Program} {F0:Fz} {w0:Pt P} {B:Env} {F:Fz} {w:World} {a:Act} {Q:Exit → Act → World → Prop} {Γ:Nat → Option TI} {nt:Nat} {L0:Boxes} {orc:List (Nat × D)} {K:List (Nat × D)} {st:Nat → DS}
theorem wpOp_pre {pre l:List Oper} {i:Nat} {R:Act → World → Prop} (hp:∀ j,j < pre.length → l[j]? = pre[j]?) (hi:i < pre.length) (hg:∀ o gi,pre[i]? = some o → o.guard = some gi → gi.1 < pre.length) (h:wpOp P pre.toArray Q i R a w):wpOp P l.toArray Q i R a w:=by
 unfold wpOp at *
 have e:=hp i hi
 rw [List.getElem?_toArray] at *
 rw [e]
 cases ho:pre[i]? with
 | none=>rw [ho] at h; exact h
 | some o =>
  rw [ho] at h
  simp only at h ⊢
  have ew:Region.wanted o (yielded l.toArray a.tmps) = Region.wanted o (yielded pre.toArray a.tmps):=by
   unfold Region.wanted
   cases hgd:o.guard with
   | none=>rfl
   | some gi =>
    obtain ⟨j,want⟩:=gi
    have hj:=hg o (j,want) ho hgd
    simp only
    unfold yielded
    rw [List.getElem?_toArray,List.getElem?_toArray,hp j hj]
  rw [ew]; exact h
theorem wpAny_list {l:List Oper} (he:edgesOK l = true) {n:Nat} (hs:sufOK l n = true):∀ (fuel i:Nat) (listed:Array Bool) (a:Act) (w:World),n ≤ i → i ≤ l.length → listed.size = l.length → (∀ j,j < l.length → listed.getD j false = decide (j < i)) → l.length - i ≤ fuel → wpList P l.toArray Q (l.drop i) a w → wpAny P .any l.toArray Q fuel listed a w:=by
 intro fuel
 induction fuel with
 | zero =>
  intro i listed a w hn hi hsz hl hf h
  have e:i = l.length:=by omega
  subst e
  rw [List.drop_eq_nil_of_le (Nat.le_refl _)] at h
  refine ⟨?_,h⟩
  apply List.eq_nil_iff_forall_not_mem.2
  intro j hj
  obtain ⟨h1,o,h2,_⟩:=mem_ready.1 hj
  rw [List.getElem?_toArray] at h2
  have hlt:=(List.getElem?_eq_some_iff.1 h2).1
  have h3:=hl j hlt
  have hj':j < listed.size:=by omega
  simp only [Array.getD_eq_getD_getElem?,Array.getElem?_eq_getElem hj',Option.getD_some] at h1 h3
  rw [h3] at h1; simp at h1; omega
 | succ fuel ih =>
  intro i listed a w hn hi hsz hl hf h
  by_cases hlt:i < l.length
  ·have hd:l.drop i = l[i] :: l.drop (i + 1):=List.drop_eq_getElem_cons hlt
   rw [hd,wpList] at h
   refine ⟨fun hr=>?_,fun j hj=>?_⟩
   ·have:=all_listed he hr hsz i hlt
    rw [hl i hlt] at this; simp at this
   ·obtain ⟨h1,o,h2,h3⟩:=mem_ready.1 hj
    rw [List.getElem?_toArray] at h2
    have hjl:=(List.getElem?_eq_some_iff.1 h2).1
    have hj':j < listed.size:=by omega
    have hjf:listed.getD j false = false:=by
     simp only [Array.getD_eq_getD_getElem?,Array.getElem?_eq_getElem hj',Option.getD_some] at h1 ⊢
     exact h1
    have hge:i ≤ j:=by
     rw [hl j hjl] at hjf; simpa using hjf
    have hji:j = i:=by
     rcases Nat.lt_or_ge i j with hlt2 | hge2
     ·exfalso
      have hz:(o,j) ∈ l.zipIdx:=List.mem_zipIdx_iff_getElem?.2 h2
      have h4:=List.all_eq_true.1 hs _ hz
      simp only [Bool.or_eq_true,decide_eq_true_eq] at h4
      have h5:=h4.resolve_left (by omega)
      have h6:=List.all_eq_true.1 h5 i (List.mem_range.2 hlt2)
      have h7:i ∈ ancL l j:=by simpa using h6
      have h8:=anc_S (ops:=l) (S:=fun q=>decide (q < i)) (fun k o' hk ho' q hq=>by
       have hz':(o',k) ∈ l.zipIdx:=List.mem_zipIdx_iff_getElem?.2 ho'
       have h9:=List.all_eq_true.1 (List.all_eq_true.1 he _ hz') q hq
       simp only [decide_eq_true_eq] at hk h9 ⊢
       omega) h2 (fun q hq=>by
       unfold onL at hq
       obtain ⟨e,he1,he2⟩:=List.mem_filterMap.1 hq
       split at he2
       ·rename_i hb
        cases he2
        have h9:=h3 e (by simpa using he1) hb
        have hz':(o,j) ∈ l.zipIdx:=List.mem_zipIdx_iff_getElem?.2 h2
        have h10:=List.all_eq_true.1 (List.all_eq_true.1 he _ hz') e.on (by unfold onL; exact List.mem_filterMap.2 ⟨e,he1,by rw [hb]; rfl⟩)
        simp only [decide_eq_true_eq] at h10
        rw [hl _ (by omega)] at h9; exact h9
       ·cases he2) i h7
      simp at h8
     ·omega
    subst hji
    have ho:l[j]? = some l[j]:=List.getElem?_eq_getElem hlt
    unfold wpOp
    rw [List.getElem?_toArray,ho]
    simp only
    have hnext:∀ a w,wpList P l.toArray Q (l.drop (j + 1)) a w → wpAny P .any l.toArray Q fuel (listed.setIfInBounds j true) a w:=fun a w hw =>
     ih (j + 1) _ a w (by omega) (by omega) (by simp [hsz]) (fun q hq=>by
      by_cases hqj:q = j
      ·subst hqj
       simp [Array.getD_eq_getD_getElem?,hj']
      ·rw [getD_set_ne false (fun e=>hqj e.symm),hl q hq]
       rw [decide_eq_decide]; omega) (by omega) hw
    split
    ·rename_i hw
     rw [if_pos hw] at h
     exact h.imp (Oper.wp_mono hnext) id
    ·rename_i hw
     rw [if_neg hw] at h
     exact hnext _ _ h
  ·have e:i = l.length:=by omega
   subst e
   rw [List.drop_eq_nil_of_le (Nat.le_refl _)] at h
   refine ⟨fun _=>h,fun j hj=>?_⟩
   exfalso
   obtain ⟨h1,o,h2,_⟩:=mem_ready.1 hj
   rw [List.getElem?_toArray] at h2
   have hjl:=(List.getElem?_eq_some_iff.1 h2).1
   have h3:=hl j hjl
   have hj':j < listed.size:=by omega
   simp only [Array.getD_eq_getD_getElem?,Array.getElem?_eq_getElem hj',Option.getD_some] at h1 h3
   rw [h3] at h1; simp at h1; omega
def sufQ (P:Program) (l:List Oper) (n:Nat) (Q:Exit → Act → World → Prop):Exit → Act → World → Prop
 | .normal,a,w=>wpList P l.toArray Q (l.drop n) a w
 | e,a,w=>Q e a w
theorem sufQ_out {l:List Oper} {n:Nat} (h:LetsOut (sufQ P l n Q)):LetsOut Q:=h
theorem wp_suf {l:List Oper} {n:Nat} {o:Oper} {K K':Act → World → Prop} (h:∀ a w,K a w → K' a w) (hh:o.wp P a w K (sufQ P l n Q)):o.wp P a w K' Q:=by
 unfold Oper.wp at *
 generalize (execOp a.eval o).run P w = r at *
 cases r with
 | ok n w' =>
  cases n <;> simp only [Oper.upon] at hh ⊢ <;>
   first
    | exact h _ _ hh
    | exact Calls.mono hh (fun e w'' he=>by cases e <;> first | exact h _ _ he | exact he)
    | exact Rows.mono hh (fun _ _ he=>h _ _ he)
 | halt x w'=>cases x <;> simp only [Oper.upon] at hh ⊢ <;> exact hh
theorem wpOp_suf {l:List Oper} {n i:Nat} {ops:Array Oper} {K K':Act → World → Prop} (h:∀ a w,K a w → K' a w) (hh:wpOp P ops (sufQ P l n Q) i K a w):wpOp P ops Q i K' a w:=by
 unfold wpOp at *
 split
 ·exact h _ _ (by simpa [*] using hh)
 ·rename_i o ho
  simp only [ho] at hh
  split
  ·rename_i hw; simp only [hw,if_true] at hh; exact hh.imp (wp_suf h) (And.imp id sufQ_out)
  ·rename_i hw; simp only [hw] at hh; exact h _ _ hh
theorem getD_push {listed:Array Bool} {n m j:Nat} (hsz:listed.size = n) (hj:j < n) (b:Bool):(listed ++ Array.replicate m false).getD j b = listed.getD j b:=by
 simp [Array.getD_eq_getD_getElem?,Array.getElem?_append,hsz,hj]
theorem getD_behind {listed:Array Bool} {n m j:Nat} (hsz:listed.size = n) (hj:n ≤ j):(listed ++ Array.replicate m false).getD j false = false:=by
 have:¬ j < n:=by omega
 simp only [Array.getD_eq_getD_getElem?,Array.getElem?_append,hsz,this,if_false,Array.getElem?_replicate]
 split <;> rfl
theorem wpAny_suf {l:List Oper} {n:Nat} (he:edgesOK l = true) (hep:edgesOK (l.take n) = true) (hs:sufOK l n = true) (hg:guardsIn (l.take n) n = true) (hn:n ≤ l.length) :
  ∀ (fuel:Nat) (listed:Array Bool) (a:Act) (w:World),listed.size = n → (∀ k o,listed.getD k false = true → (l.take n)[k]? = some o → ∀ j ∈ onL o,listed.getD j false = true) → wpAny P .any (l.take n).toArray (sufQ P l n Q) fuel listed a w → wpAny P .any l.toArray Q (fuel + (l.length - n)) (listed ++ Array.replicate (l.length - n) false) a w:=by
 have hlen:(l.take n).length = n:=by simp [hn]
 have hpre:∀ j,j < (l.take n).length → l[j]? = (l.take n)[j]?:=by
  intro j hj
  rw [hlen] at hj
  rw [List.getElem?_take]; simp [hj]
 have hrest:∀ (fuel:Nat) (listed:Array Bool) (a:Act) (w:World),listed.size = n → (∀ j,j < n → listed.getD j false = true) → wpList P l.toArray Q (l.drop n) a w → wpAny P .any l.toArray Q (fuel + (l.length - n)) (listed ++ Array.replicate (l.length - n) false) a w:=by
  intro fuel listed a w hsz hall h
  refine wpAny_list he hs _ n _ a w (Nat.le_refl _) hn (by simp [hsz]; omega) (fun j hj=>?_) (by omega) h
  by_cases hjn:j < n
  ·rw [getD_push hsz hjn,hall j hjn]; simp [hjn]
  ·rw [getD_behind hsz (by omega)]; simp [hjn]
 intro fuel
 induction fuel with
 | zero =>
  intro listed a w hsz hcl h
  obtain ⟨hr,h⟩:=h
  exact hrest 0 listed a w hsz (fun j hj=>all_listed hep hr (by rw [hlen]; exact hsz) j (by rw [hlen]; exact hj)) h
 | succ fuel ih =>
  intro listed a w hsz hcl h
  obtain ⟨h0,h1⟩:=h
  by_cases hr:Region.ready .any (l.take n).toArray listed = []
  ·exact hrest _ listed a w hsz (fun j hj=>all_listed hep hr (by rw [hlen]; exact hsz) j (by rw [hlen]; exact hj)) (h0 hr)
  ·obtain ⟨i0,hi0⟩:=List.exists_mem_of_ne_nil _ hr
   obtain ⟨h2,o0,h3,_⟩:=mem_ready.1 hi0
   rw [List.getElem?_toArray] at h3
   have hi0n:i0 < n:=by have:=(List.getElem?_eq_some_iff.1 h3).1; omega
   have h2':listed.getD i0 false = false:=by
    have:i0 < listed.size:=by omega
    simp only [Array.getD_eq_getD_getElem?,Array.getElem?_eq_getElem this,Option.getD_some] at h2 ⊢
    exact h2
   have hfu:fuel + 1 + (l.length - n) = (fuel + (l.length - n)) + 1:=by omega
   rw [hfu]
   refine ⟨fun hr'=>?_,fun i hi=>?_⟩
   ·exfalso
    have:=all_listed he hr' (by simp [hsz]; omega) i0 (by omega)
    rw [getD_push hsz hi0n,h2'] at this; cases this
   ·obtain ⟨h4,o,h5,h6⟩:=mem_ready.1 hi
    rw [List.getElem?_toArray] at h5
    have hil:=(List.getElem?_eq_some_iff.1 h5).1
    have hin:i < n:=by
     rcases Nat.lt_or_ge i n with h | h
     ·exact h
     ·exfalso
      have hz:(o,i) ∈ l.zipIdx:=List.mem_zipIdx_iff_getElem?.2 h5
      have h7:=List.all_eq_true.1 hs _ hz
      simp only [Bool.or_eq_true,decide_eq_true_eq] at h7
      have h8:=h7.resolve_left (by omega)
      have h9:=List.all_eq_true.1 h8 i0 (List.mem_range.2 (by omega))
      have h10:i0 ∈ ancL l i:=by simpa using h9
      have hlt:∀ q,listed.getD q false = true → q < n:=by
       intro q hq
       rcases Nat.lt_or_ge q n with h | h
       ·exact h
       ·have:¬ q < listed.size:=by omega
        simp [Array.getD_eq_getD_getElem?,this] at hq
      have h11:=anc_S (ops:=l) (S:=fun q=>listed.getD q false || decide (n ≤ q ∧ q < i ∧ False)) (fun k o' hk ho' q hq=>by
       have hk':listed.getD k false = true:=by simpa using hk
       have hkn:=hlt k hk'
       have:=hcl k o' hk' (by rw [← hpre k (by rw [hlen]; exact hkn)]; exact ho') q hq
       simp [this]) h5 (fun q hq=>by
       unfold onL at hq
       obtain ⟨e,he1,he2⟩:=List.mem_filterMap.1 hq
       split at he2
       ·rename_i hb
        cases he2
        have h12:=h6 e (by simpa using he1) hb
        rcases Nat.lt_or_ge e.on n with h | h
        ·rw [getD_push hsz h] at h12; simp [h12]
        ·rw [getD_behind hsz h] at h12; cases h12
       ·cases he2) i0 h10
      simp only [Bool.or_eq_true,decide_eq_true_eq] at h11
      rcases h11 with h11 | h11
      ·rw [h2'] at h11; cases h11
      ·exact h11.2.2
    have ho':(l.take n)[i]? = some o:=by rw [← hpre i (by omega)]; exact h5
    have hmem:i ∈ Region.ready .any (l.take n).toArray listed:=by
     rw [mem_ready]
     refine ⟨by rw [← getD_push hsz hin (m:=l.length - n)]; exact h4,o,by rw [List.getElem?_toArray]; exact ho',fun e hem hb=>?_⟩
     have hz:(o,i) ∈ (l.take n).zipIdx:=List.mem_zipIdx_iff_getElem?.2 ho'
     have h7:=List.all_eq_true.1 hep _ hz
     have hon:e.on ∈ onL o:=by
      unfold onL
      rw [List.mem_filterMap]
      exact ⟨e,by simpa using hem,by rw [hb]; rfl⟩
     have h8:e.on < i:=of_decide_eq_true (List.all_eq_true.1 h7 e.on hon)
     have:=h6 e hem hb
     rw [getD_push hsz (by omega)] at this; exact this
    have h11:=h1 i hmem
    have h12:=wpOp_pre (l:=l) hpre (by omega) (fun o' gi ho1 ho2=>by
     have:=List.all_eq_true.1 hg o' (List.mem_of_getElem? ho1)
     rw [ho2] at this
     rw [hlen]; simpa using this) h11
    refine wpOp_suf (fun a' w' hk=>?_) h12
    have h13:=ih (listed.setIfInBounds i true) a' w' (by simp [hsz]) (fun k o' hk1 hk2 q hq=>by
     have hmono:∀ q,listed.getD q false = true → (listed.setIfInBounds i true).getD q false = true:=by
      intro q hq
      by_cases hqi:q = i
      ·subst hqi
       have:q < listed.size:=by omega
       simp [Array.getD_eq_getD_getElem?,this]
      ·rw [getD_set_ne false (fun e=>hqi e.symm)]; exact hq
     apply hmono
     by_cases hki:k = i
     ·subst hki
      rw [ho'] at hk2; cases hk2
      obtain ⟨_,o2,h14,h15⟩:=mem_ready.1 hmem
      rw [List.getElem?_toArray,ho'] at h14; cases h14
      unfold onL at hq
      obtain ⟨e,he1,he2⟩:=List.mem_filterMap.1 hq
      split at he2
      ·rename_i hb
       cases he2
       exact h15 e (by simpa using he1) hb
      ·cases he2
     ·rw [getD_set_ne false (fun e=>hki e.symm)] at hk1
      exact hcl k o' hk1 hk2 q hq) hk
    have he':(listed ++ Array.replicate (l.length - n) false).setIfInBounds i true = listed.setIfInBounds i true ++ Array.replicate (l.length - n) false:=by
     rw [Array.setIfInBounds_append_left (by omega)]
    rw [he']; exact h13
theorem mid_inv {l pre:List Oper} {st:Nat → DS} (hpre:pre = l.take pre.length) (ht:Trace (CX P) Γ nt orc pre L0 K st) {S:Nat → Bool} (hS:∀ j,j < pre.length → S j = true) (hi:InvD nt pre L0 K (st pre.length) S F0 w0 B F a w) :
  InvR nt l F0 w0 B F { K:=midK pre (st pre.length).K,L:=viewD L0 (st pre.length),tab:=(st pre.length).tab,obl:=(st pre.length).obl } (fun j=>j < pre.length) a w:=by
 have hg:=ht.good pre.length (Nat.le_refl _)
 refine ⟨hi.base.sub fun k t ds h=>?_,hi.defers,hi.size,fun e he=>?_,fun e he x hx=>?_,fun e he=>?_,fun e he j hj=>?_⟩
 ·rcases List.mem_append.1 h with hv | hv
  ·obtain ⟨c0,hc,rfl⟩:=view_mem hv
   refine .inl ⟨c0,hc.imp (fun h=>h) fun ⟨j,hj⟩=>⟨j,hS j ((ht.good _ (Nat.le_refl _)).A _ hj),hj⟩,?_⟩
   congr 1
   symm
   rw [List.filter_eq_self]
   intro x hx
   exact hS _ ((ht.good _ (Nat.le_refl _)).T x hx)
  ·rcases List.mem_append.1 hv with hv | hv
   ·obtain ⟨h7,h8⟩:=List.mem_filter.1 hv
    simp only [Bool.and_eq_true,Bool.not_eq_true'] at h8
    refine .inr (.inl ⟨h7,h8.1,fun n hn hk=>?_⟩)
    have h9:=h8.2
    rw [hn] at h9
    simp [taken,hk] at h9
   ·split at hv
    ·rename_i n hn
     rw [List.mem_singleton] at hv
     cases hv
     exact .inr (.inr ⟨n,hn,hS _ ((ht.good _ (Nat.le_refl _)).N n hn),rfl,rfl,rfl⟩)
    ·simp at hv
 ·obtain ⟨hm,hsrc⟩:=List.mem_filter.1 he
  by_cases h0:e.src = 0
  ·have hno:∀ o ∈ pre,o.dst ≠ some e.slot:=by
    intro o ho
    simp only [Bool.or_eq_true,bne_iff_ne,ne_eq] at hsrc
    have:=List.all_eq_true.1 (hsrc.resolve_left (by simpa using h0)) o ho
    simpa using this
   obtain ⟨⟨K2,hK2,hK3⟩,_⟩:=ht.ext (Nat.zero_le _) (Nat.le_refl pre.length)
   have hst:e ∈ (st 0).K:=by
    rw [hK2] at hm
    rcases List.mem_append.1 hm with h | h
    ·have:=hK3 e h; omega
    ·exact h
   rw [ht.zero] at hst
   obtain ⟨y,hy,rfl⟩:=List.mem_map.1 hst
   exact ⟨fun _=>hi.old y hy fun k o hk ho=>hno o (List.mem_of_getElem? ho),fun h=>by simp [holds] at h⟩
  ·have hle:=hg.srcs e hm
   exact hi.new e hm (e.src - 1) (by omega) (hS _ (by omega))
 ·have h1:=hg.keys e (List.mem_filter.1 he).1 x hx
  have h2:=hg.srcs e (List.mem_filter.1 he).1
  omega
 ·have h2:=hg.srcs e (List.mem_filter.1 he).1
  rcases Nat.eq_zero_or_pos e.src with h | h
  ·exact .inl h
  ·exact .inr (by omega)
 ·obtain ⟨h1,h2⟩:=hg.dsts e (List.mem_filter.1 he).1 j hj
  have h3:=hg.srcs e (List.mem_filter.1 he).1
  refine ⟨?_,h2⟩
  have:l[j]? = pre[j]?:=by rw [hpre,List.getElem?_take]; simp; intro h; omega
  rw [this]; exact h1
theorem Wp.regionS (hm:P.follows .mixedOrders = true) (hΓ:ΓOK P Γ) {id:Nat} {l:List Oper} {L L':Boxes} {K':List (Nat × D)} (n:Nat) (fz:List (Nat × List Nat)) (orc:List (Nat × D)) (orb:List (Nat × CBd)) (kk kl:List Nat) {ob:List Prop} (h:evRegionS (CX P) (CallsB P) Γ nt orc orb l n fz L K kk kl = some (K',L',ob)) (hob:AllP ob) (hn:To nt F0 w0 K' L' .normal Q) :
  Wp P nt F0 w0 K L (.region id l.toArray true) Q:=by
 rintro a w ⟨B,F,hb,hd,hs,hK⟩
 unfold evRegionS at h
 split at h
 ·rename_i hok
  simp only [Bool.and_eq_true,decide_eq_true_eq] at hok
  obtain ⟨⟨⟨⟨⟨⟨hdst,hedg⟩,hedgp⟩,hsuf⟩,hgin⟩,hnl⟩,hfl0⟩:=hok
  split at h
  ·rename_i s hs'
   split at h
   ·rename_i s2 hs2
    split at h
    ·rename_i K1 L1 hk hl
     cases h
     have hlen:(l.take n).length = n:=by simp [hnl]
     obtain ⟨st,h0,h1,h2⟩:=trace_of (l.take n) 0 hs'
     have ht:Trace (CX P) Γ nt orc (l.take n) L K st:=⟨h0,fun i o ho=>by have:=h2 i o ho; simpa using this⟩
     rw [Nat.zero_add] at h1
     have hobs:∀ p ∈ s.obl,p:=fun p hp=>AllP.mem hob p (evOps_obl _ _ hs2 p hp)
     have hi:=startD ht hb.draw hd hs (fun x hx=>by
      obtain ⟨v,h3,h4⟩:=hK x hx
      have hgr:Grow F F w w.drew:=⟨fun _ _ h=>h,fun _ _ _=>rfl⟩
      exact ⟨v,h3,h4.grow hgr⟩)
     refine region_any_in hm (fun o ho=>?_) ?_
     ·have ho':o ∈ l.take n ++ l.drop n:=by rw [List.take_append_drop]; simpa using ho
      rcases List.mem_append.1 ho' with h | h
      ·exact evOpsD_nd _ _ hs' o h
      ·exact evOps_nd _ _ hs2 o h
     have hw:({ w with drawn:=w.drawn + 1 }:World) = w.drew:=rfl
     rw [hw]
     have hrep:(Array.replicate l.toArray.size false) = Array.replicate n false ++ Array.replicate (l.length - n) false:=by
      rw [Array.replicate_append_replicate]; congr 1; simp; omega
     have hsz:l.toArray.size = n + (l.length - n):=by simp; omega
     rw [hrep,hsz]
     refine wpAny_suf hedg hedgp hsuf hgin hnl _ _ _ _ (by simp) (fun k o hk=>by simp [Array.getD_eq_getD_getElem?,Array.getElem?_replicate] at hk; split at hk <;> simp at hk) ?_
     refine any_sound (F0:=F0) (w0:=w0) (Q:=sufQ P l n (nrm Q)) hΓ hdst hfl0 hedgp ht (by rw [h1]; exact hobs) (fun B' F' a w S hS hi=>?_) _ _ (unset B (keysD (st (l.take n).length))) F a w.drew (by simp [hnl]) ?_ ?_
     ·have hmid:=mid_inv (l:=l) (by rw [hlen]) ht hS hi
      rw [h1,hlen] at hmid
      exact evOps_sound hΓ (l.drop n) n (fun j=>by rw [List.getElem?_drop]) hs2 (AllP.mem hob) hmid fun B'' F'' a' w' hi'=>hn a' w' (end_inv hi' hk hl)
     ·unfold left
      have:=List.length_filter_le (fun j=>!((Array.replicate n false).getD j false)) (List.range (l.take n).length)
      simp only [List.length_range,hlen] at this ⊢
      exact this
     ·have hfun:(fun j=>(Array.replicate n false).getD j false) = fun _=>false:=by
       funext j
       simp only [Array.getD_eq_getD_getElem?,Array.getElem?_replicate]
       split <;> rfl
      rw [hfun]; exact hi
    ·cases h
   ·cases h
  ·cases h
 ·cases h
end
end Go.Proofs.YtibgdilkodjojaaGreatDoor.RX
