import Derived.Test.YtibgdilkodjojaaGreatDoorQRxReg
set_option linter.all false
namespace Go.Proofs.YtibgdilkodjojaaGreatDoor.RX
open Go.RowKit
mutual
theorem Rep.reenv {F:Fz} {w:World} {B B':Env}:∀ {d v},Rep F w B d v → (∀ k,D.names k d = true → B' k = B k) → Rep F w B' d v
 | _,_,.val v hv,_=>.val v hv
 | _,_,.str l,_=>.str l
 | _,_,.own i off b h,hn=>.own i off b ((hn i (by simp [D.names])).trans h)
 | _,_,.opt i b v h hv,hn=>.opt i b v ((hn i (by simp [D.names])).trans h) hv
 | _,_,.srow j p n cap h,hn=>.srow j p n cap ((hn j (by simp [D.names])).trans h)
 | _,_,.mp i b h,hn=>.mp i b ((hn i (by simp [D.names])).trans h)
 | _,_,.agg ds vs h,hn=>.agg ds vs (RepL.reenv h hn)
 | _,_,.tup ds vs h,hn=>.tup ds vs (RepL.reenv h hn)
 | _,_,.recsNil d enc p,_=>.recsNil d enc p
 | _,_,.recs d enc l gb off cap size vs hz h1 h2 h3 hc,_=>.recs d enc l gb off cap size vs hz h1 h2 h3 hc
 | _,_,.el ds vs gb off h h2,_=>.el ds vs gb off h h2
 | _,_,.fn f ds vs h,hn=>.fn f ds vs (RepL.reenv h hn)
 | _,_,.row j p n cap h,hn=>.row j p n cap ((hn j (by simp [D.names])).trans h)
 | _,_,.rowNil j q h,hn=>.rowNil j q ((hn j (by simp [D.names])).trans h)
 | _,_,.elm j n z off b nn cap h,hn=>.elm j n z off b nn cap ((hn j (by simp [D.names])).trans h)
 | _,_,.tree d pre kids l v h,_=>.tree d pre kids l v (Rep.reenv h fun k hk=>by simp [D.names] at hk)
 | _,_,.arr d enc l vs hg h,_=>.arr d enc l vs hg h
 | _,_,.hole v hv,_=>.hole v hv
theorem RepL.reenv {F:Fz} {w:World} {B B':Env}:∀ {ds vs},RepL F w B ds vs → (∀ k,D.namess k ds = true → B' k = B k) → RepL F w B' ds vs
 | _,_,.nil,_=>.nil
 | _,_,.cons d v ds vs h hs,hn=>.cons d v ds vs (Rep.reenv h fun k hk=>hn k (by simp [D.namess,hk])) (RepL.reenv hs fun k hk=>hn k (by simp [D.namess,hk]))
end
theorem never_no {F:Fz} {w:World} {B:Env} {v:Value} (h:Rep F w B never v):False:=by
 unfold never at h
 cases h with
 | agg ds vs h=>cases h with
  | cons d v ds vs h hs=>cases h
def pull (ren:List (Nat × Nat)) (B:Env):Env:=fun j=>(ren.lookup j).bind B
mutual
theorem Rep.pull {F:Fz} {w:World} {B:Env} {ren:List (Nat × Nat)}:∀ (d:D) {v},Rep F w B (D.sub (renF never ren) d) v → Rep F w (RX.pull ren B) d v
 | .val _,_,.val v hv=>.val v hv
 | .str _,_,.str l=>.str l
 | .own i off,v,h=>by
  unfold D.sub at h
  simp only [renF] at h
  cases he:ren.lookup i with
  | none=>rw [he] at h; exact (never_no h).elim
  | some k =>
   rw [he] at h
   simp only [Option.getD_some] at h
   cases h with
   | own _ _ b hB=>exact .own i off b (by simp [RX.pull,he,hB])
 | .opt i,v,h=>by
  unfold D.sub at h
  simp only [renF] at h
  cases he:ren.lookup i with
  | none=>rw [he] at h; exact (never_no h).elim
  | some k =>
   rw [he] at h
   simp only [Option.getD_some] at h
   cases h with
   | opt _ b v hB hv=>exact .opt i b v (by simp [RX.pull,he,hB]) hv
 | .srow i,v,h=>by
  unfold D.sub at h
  simp only [renF] at h
  cases he:ren.lookup i with
  | none=>rw [he] at h; exact (never_no h).elim
  | some k =>
   rw [he] at h
   simp only [Option.getD_some] at h
   cases h with
   | srow _ p n cap hB=>exact .srow i p n cap (by simp [RX.pull,he,hB])
 | .mp i,v,h=>by
  unfold D.sub at h
  simp only [renF] at h
  cases he:ren.lookup i with
  | none=>rw [he] at h; exact (never_no h).elim
  | some k =>
   rw [he] at h
   simp only [Option.getD_some] at h
   cases h with
   | mp _ b hB=>exact .mp i b (by simp [RX.pull,he,hB])
 | .row i,v,h=>by
  unfold D.sub at h
  simp only [renF] at h
  cases he:ren.lookup i with
  | none=>rw [he] at h; exact (never_no h).elim
  | some k =>
   rw [he] at h
   simp only [Option.getD_some] at h
   cases h with
   | row _ p n cap hB=>exact .row i p n cap (by simp [RX.pull,he,hB])
   | rowNil _ q hB=>exact .rowNil i q (by simp [RX.pull,he,hB])
 | .elm i n z off,v,h=>by
  unfold D.sub at h
  simp only [renF] at h
  cases he:ren.lookup i with
  | none=>rw [he] at h; exact (never_no h).elim
  | some k =>
   rw [he] at h
   simp only [Option.getD_some] at h
   cases h with
   | elm _ _ _ _ b nn cap hB=>exact .elm i n z off b nn cap (by simp [RX.pull,he,hB])
 | .agg ds,v,h=>by
  simp only [D.sub] at h
  cases h with
  | agg _ vs h=>exact .agg ds vs (RepL.pull ds h)
 | .tup ds,v,h=>by
  simp only [D.sub] at h
  cases h with
  | tup _ vs h=>exact .tup ds vs (RepL.pull ds h)
 | .fn f ds,v,h=>by
  simp only [D.sub] at h
  cases h with
  | fn _ _ vs h=>exact .fn f ds vs (RepL.pull ds h)
 | .recs d enc l,v,h=>by
  simp only [D.sub] at h
  exact h.bare rfl
 | .el ds,v,h=>by
  simp only [D.sub] at h
  exact h.bare rfl
 | .rowc m d enc l,v,h=>by
  simp only [D.sub] at h
  cases h
 | .mapc kk ag d enc l,v,h=>by
  simp only [D.sub] at h
  cases h
 | .tree d pre kids l,v,h=>by
  simp only [D.sub] at h
  exact h.bare rfl
 | .arr d enc l,v,h=>by
  simp only [D.sub] at h
  exact h.bare rfl
 | .hole,v,h=>by
  simp only [D.sub] at h
  exact h.bare rfl
theorem RepL.pull {F:Fz} {w:World} {B:Env} {ren:List (Nat × Nat)}:∀ (ds:List D) {vs},RepL F w B (D.subs (renF never ren) ds) vs → RepL F w (RX.pull ren B) ds vs
 | [],_,h=>by cases h; exact .nil
 | d :: ds,vs,h=>by
  simp only [D.subs] at h
  cases h with
  | cons _ v _ vs' h hs=>exact .cons d v ds vs' (Rep.pull d h) (RepL.pull ds hs)
end
theorem renF_ok {F:Fz} {w:World} {B B':Env} {ren:List (Nat × Nat)} (h:∀ j k,ren.lookup j = some k → B' k = B j):SubOK F w B B' (renF .hole ren):=by
 refine ⟨fun d r v he hv=>?_,fun k off he=>?_,fun k he=>?_,fun k he=>?_,fun k he=>?_,fun k n z off he=>?_,fun k he=>?_⟩
 ·cases hv <;> simp only [renF] at he <;> first | (cases he; done) | skip
  all_goals
   split at he
   ·rename_i k hk
    cases he
    have:=h _ _ hk
    first
     | exact .own _ _ _ (by rw [this]; assumption)
     | exact .opt _ _ _ (by rw [this]; assumption) (by assumption)
     | exact .srow _ _ _ _ (by rw [this]; assumption)
     | exact .mp _ _ (by rw [this]; assumption)
     | exact .row _ _ _ _ (by rw [this]; assumption)
     | exact .rowNil _ _ (by rw [this]; assumption)
     | exact .elm _ _ _ _ _ _ _ (by rw [this]; assumption)
   ·cases he
    first
     | exact .hole _ rfl
     | (rcases ‹_ ∨ _› with rfl | rfl <;> exact .hole _ rfl)
 all_goals
  simp only [renF] at he
  split at he <;> cases he
theorem unsub_flat {s:D → Option D}:∀ {d:D},(D.sub s d).flat = true → d.flat = true:=by
 intro d h
 cases d <;> first | rfl | (simp [D.sub,D.flat] at h)
theorem unsubs_flat {s:D → Option D}:∀ {ds:List D},(D.subs s ds).all D.flat = true → ds.all D.flat = true
 | [],_=>rfl
 | d :: ds,h=>by
  simp only [D.subs,List.all_cons,Bool.and_eq_true] at h
  simp only [List.all_cons,Bool.and_eq_true]
  exact ⟨unsub_flat h.1,unsubs_flat h.2⟩
theorem renF_flat {ren:List (Nat × Nat)}:∀ d r,renF .hole ren d = some r → r.flat = true:=by
 intro d r h
 cases d <;> simp only [renF] at h <;> first | (cases h; done) | (split at h <;> cases h <;> rfl)
theorem lookup_mem2 {l:List (Nat × Nat)} {j k:Nat} (h:l.lookup j = some k):(j,k) ∈ l:=mem_of_lookup h
theorem nodupB_inj {l:List (Nat × Nat)} (h:nodupB (l.map (·.2)) = true):∀ {i j k:Nat},(i,k) ∈ l → (j,k) ∈ l → i = j:=by
 induction l with
 | nil=>intro i j k h1; simp at h1
 | cons x l ih =>
  simp only [List.map_cons,nodupB,Bool.and_eq_true,Bool.not_eq_true'] at h
  intro i j k h1 h2
  have hx:∀ i,(i,x.2) ∈ l → False:=fun i hi=>by
   have:(l.map (·.2)).contains x.2 = true:=by
    rw [List.contains_iff_mem]; exact List.mem_map.2 ⟨_,hi,rfl⟩
   rw [h.1] at this; cases this
  rcases List.mem_cons.1 h1 with h3 | h3
  ·rcases List.mem_cons.1 h2 with h4 | h4
   ·rw [← h3] at h4; cases h4; rfl
   ·rw [← h3] at hx; exact (hx j h4).elim
  ·rcases List.mem_cons.1 h2 with h4 | h4
   ·rw [← h4] at hx; exact (hx i h3).elim
   ·exact ih h.2 h3 h4
def CallsB (P:Program) (f:Nat) (ds:List D) (Lin:Boxes) (r:D) (Lout:Boxes):Prop :=
 FOK P f ∧ ∀ (F:Fz) (w1:Pt P) (B:Env) (args:List Value),Base F w1 B F (memL Lin) w1.w → RepL F w1.w B ds args →
  Calls P f args.toArray w1.w fun e w'=>∃ v F' B',e = .returned v ∧ Rep F' w' B' r v ∧ Base F w1 B' F' (memL Lout) w'
section
variable {P:Program} {F0:Fz} {w0:Pt P} {B:Env} {F:Fz} {L:Boxes} {w:World} {a:Act} {Q:Exit → Act → World → Prop}
def env2 (ren2:List (Nat × Nat)) (B B':Env):Env:=fun k=>match ren2.find? fun p=>p.2 == k with | some p=>B' p.1 | none=>B k
theorem env2_some {ren2:List (Nat × Nat)} (h:nodupB (ren2.map (·.2)) = true) {B B':Env} {j k:Nat} (hm:(j,k) ∈ ren2):env2 ren2 B B' k = B' j:=by
 unfold env2
 cases he:ren2.find? fun p=>p.2 == k with
 | none=>have:=List.find?_eq_none.1 he _ hm; simp at this
 | some p =>
  have h1:=List.mem_of_find?_eq_some he
  have h2:p.2 = k:=by simpa using List.find?_some he
  obtain ⟨p1,p2⟩:=p
  simp only at h2
  subst h2
  have:p1 = j:=nodupB_inj h h1 hm
  simp only [this]
theorem env2_none {ren2:List (Nat × Nat)} {B B':Env} {k:Nat} (h:∀ j,(j,k) ∉ ren2):env2 ren2 B B' k = B k:=by
 unfold env2
 cases he:ren2.find? fun p=>p.2 == k with
 | none=>rfl
 | some p =>
  have h1:=List.mem_of_find?_eq_some he
  have h2:p.2 = k:=by simpa using List.find?_some he
  exact absurd (by rw [← h2]; exact h1) (h p.1)
def afterB (c:CBd) (L:Boxes):Boxes:=renL2 c.ren2 c.Lout ++ L.filter fun x=>!((handed c).contains x.1) && (newKeys c).all fun k=>!(x.1 == k) && !(D.namess k x.2.2)
theorem memL_renL2 {ren:List (Nat × Nat)} {L:Boxes} {k t:Nat} {ds:List D} (h:memL (renL2 ren L) k t ds):∃ j ds',memL L j t ds' ∧ ren.lookup j = some k ∧ ds = D.subs (renF .hole ren) ds':=by
 unfold memL renL2 at h
 obtain ⟨⟨j,t',ds'⟩,hx,he⟩:=List.mem_filterMap.1 h
 cases hl:ren.lookup j with
 | none=>simp [hl] at he
 | some k'=>simp [hl] at he; obtain ⟨rfl,rfl,rfl⟩:=he; exact ⟨j,ds',hx,hl,rfl⟩
theorem callB_env {c:CBd} (hb:Base F0 w0 B F (memL L) w) (hok:cbOK c = true) (hLin:found c L = c.Lin.map fun x=>some (x.2.1,D.subs (renF never c.ren) x.2.2)) :
  ∃ w1:Pt P,w1.w = w ∧ Base F w1 (pull c.ren B) F (memL c.Lin) w ∧ (∀ j t ds,memL c.Lin j t ds → w1.env j = pull c.ren B j) ∧ ∀ F' B' w',Base F w1 B' F' (memL c.Lout) w' → ∃ B2,Base F0 w0 B2 F' (memL (afterB c L)) w' ∧ Grow F F' w w' ∧ (∀ k,(newKeys c).contains k = false → B2 k = B k) ∧ (∀ j k,c.ren2.lookup j = some k → B2 k = B' j) ∧ SubOK F' w' B' B2 (renF .hole c.ren2):=by
 simp only [cbOK,Bool.and_eq_true] at hok
 obtain ⟨⟨⟨⟨hlim,hnd⟩,hnd2⟩,hnd1⟩,hlow⟩:=hok
 have hmine:∀ j t ds,memL c.Lin j t ds → LIM ≤ j ∧ ∃ k,c.ren.lookup j = some k ∧ memL L k t (D.subs (renF never c.ren) ds):=by
  intro j t ds hm
  obtain ⟨i,hi⟩:=List.getElem?_of_mem hm
  have h1:=congrArg (·[i]?) hLin
  unfold found at h1
  simp only [List.getElem?_map,hi,Option.map_some,Option.some.injEq] at h1
  refine ⟨by simpa using List.all_eq_true.1 hlim _ hm,?_⟩
  cases hl:c.ren.lookup j with
  | none=>rw [hl] at h1; cases h1
  | some k=>rw [hl] at h1; exact ⟨k,rfl,mem_of_lookup h1⟩
 have hlt:∀ k t ds,memL L k t ds → ∀ b,blkOf B k = some b → b < w.heap.size:=fun k t ds hm b hbk=>(hb.boxes _ _ _ hm).lt hbk
 let Bc:Env:=fun j=>if (c.Lin.map (·.1)).contains j then pull c.ren B j else none
 have hBc:∀ j t ds,memL c.Lin j t ds → Bc j = pull c.ren B j:=by
  intro j t ds hm
  have:(c.Lin.map (·.1)).contains j = true:=by rw [List.contains_iff_mem]; exact List.mem_map.2 ⟨_,hm,rfl⟩
  simp only [Bc,this,if_true]
 let w1:Pt P:=⟨w,fun b=>∃ j t ds,memL c.Lin j t ds ∧ blkOf (pull c.ren B) j = some b,Bc,fun k hk=>by
  by_cases hc:(c.Lin.map (·.1)).contains k = true
  ·rw [List.contains_iff_mem] at hc
   obtain ⟨⟨j,t,ds⟩,hm,rfl⟩:=List.mem_map.1 hc
   exact (hmine _ _ _ hm).1
  ·simp only [Bc,hc] at hk; exact absurd rfl hk,hb.shp,fun b hbo=>by
  obtain ⟨j,t,ds,hm,hbk⟩:=hbo
  obtain ⟨_,k,hl,hmk⟩:=hmine _ _ _ hm
  exact Pt.fresh_high (hb.new _ _ _ b hmk (by simpa [blkOf,pull,hl] using hbk)),none,[]⟩
 have hown:∀ b,w1.own b → ∃ j k t ds t' ds',memL c.Lin j t' ds' ∧ c.ren.lookup j = some k ∧ memL L k t ds ∧ blkOf B k = some b:=by
  rintro b ⟨j,t,ds,hm,hbk⟩
  obtain ⟨_,k,hl,hmk⟩:=hmine _ _ _ hm
  refine ⟨j,k,_,_,_,_,hm,hl,hmk,?_⟩
  simpa [blkOf,pull,hl] using hbk
 have hbase:Base F w1 (pull c.ren B) F (memL c.Lin) w:=by
  refine ⟨fun j t ds hm=>?_,fun j t ds b hm hbk=>.inr ⟨j,t,ds,hm,hbk⟩,fun i j b hi hj hBi hBj=>?_,hb.frz,fun g k h=>.inl h,Grow.refl _ _,BelowS.refl _ _ _,fun k b h=>?_⟩
  ·obtain ⟨_,k,hl,hmk⟩:=hmine _ _ _ hm
   have hpk:pull c.ren B j = B k:=by simp [pull,hl]
   have hh:=hb.boxes _ _ _ hmk
   obtain ⟨es,hes⟩:∃ es,D.subs (renF never c.ren) ds = es:=⟨_,rfl⟩
   rw [hes] at hh
   cases hh with
   | box _ b us hB hr' hfl hh hnf =>
    subst hes
    exact .box ds b us (hpk.trans hB) (RepL.pull ds hr') (unsubs_flat hfl) hh hnf
   | row m d enc l p n cap hB hrow =>
    clear hmk hm
    match ds,hes with
    | [.mapc _ _ _ _ _],hes=>simp [D.subs,D.sub] at hes
    | [.objc _ _ _],hes=>simp [D.subs,D.sub] at hes
    | [.mp i],hes=>simp only [D.subs,D.sub,renF] at hes; split at hes <;> simp [never] at hes
    | [.rowc _ _ _ _],hes =>
     simp only [D.subs,D.sub,List.cons.injEq,and_true] at hes
     rw [hes]
     exact .row m d enc l p n cap (hpk.trans hB) hrow
    | [.own i off],hes=>simp only [D.subs,D.sub,renF] at hes; split at hes <;> simp [never] at hes
    | [.opt i],hes=>simp only [D.subs,D.sub,renF] at hes; split at hes <;> simp [never] at hes
    | [.srow i],hes=>simp only [D.subs,D.sub,renF] at hes; split at hes <;> simp [never] at hes
    | [.row i],hes=>simp only [D.subs,D.sub,renF] at hes; split at hes <;> simp [never] at hes
    | [.elm i n z off],hes=>simp only [D.subs,D.sub,renF] at hes; split at hes <;> simp [never] at hes
    | x :: y :: zs,hes=>simp [D.subs] at hes
    | [.val _],hes | [.str _],hes | [.agg _],hes | [.tup _],hes | [.recs _ _ _],hes | [.el _],hes | [.fn _ _],hes | [.tree _ _ _ _],hes | [.arr _ _ _],hes | [.hole],hes | [],hes=>simp [D.subs,D.sub] at hes
   | map kk ag d enc l b hB hmap =>
    clear hmk hm
    match ds,hes with
    | [.mapc _ _ _ _ _],hes =>
     simp only [D.subs,D.sub,List.cons.injEq,and_true] at hes
     rw [hes]
     exact .map kk ag d enc l b (hpk.trans hB) hmap
    | [.objc _ _ _],hes=>simp [D.subs,D.sub] at hes
    | [.rowc _ _ _ _],hes=>simp [D.subs,D.sub] at hes
    | [.own i off],hes=>simp only [D.subs,D.sub,renF] at hes; split at hes <;> simp [never] at hes
    | [.opt i],hes=>simp only [D.subs,D.sub,renF] at hes; split at hes <;> simp [never] at hes
    | [.srow i],hes=>simp only [D.subs,D.sub,renF] at hes; split at hes <;> simp [never] at hes
    | [.mp i],hes=>simp only [D.subs,D.sub,renF] at hes; split at hes <;> simp [never] at hes
    | [.row i],hes=>simp only [D.subs,D.sub,renF] at hes; split at hes <;> simp [never] at hes
    | [.elm i n z off],hes=>simp only [D.subs,D.sub,renF] at hes; split at hes <;> simp [never] at hes
    | x :: y :: zs,hes=>simp [D.subs] at hes
    | [.val _],hes | [.str _],hes | [.agg _],hes | [.tup _],hes | [.recs _ _ _],hes | [.el _],hes | [.fn _ _],hes | [.tree _ _ _ _],hes | [.arr _ _ _],hes | [.hole],hes | [],hes=>simp [D.subs,D.sub] at hes
   | obj b o S hB o1 o2 o3 o4 =>
    clear hmk hm
    match ds,hes with
    | [.objc _ _ _],hes =>
     simp only [D.subs,D.sub,List.cons.injEq,and_true] at hes
     rw [hes]
     exact .obj b o S (hpk.trans hB) o1 o2 o3 o4
    | [.rowc _ _ _ _],hes=>simp [D.subs,D.sub] at hes
    | [.mapc _ _ _ _ _],hes=>simp [D.subs,D.sub] at hes
    | [.own i off],hes=>simp only [D.subs,D.sub,renF] at hes; split at hes <;> simp [never] at hes
    | [.opt i],hes=>simp only [D.subs,D.sub,renF] at hes; split at hes <;> simp [never] at hes
    | [.srow i],hes=>simp only [D.subs,D.sub,renF] at hes; split at hes <;> simp [never] at hes
    | [.mp i],hes=>simp only [D.subs,D.sub,renF] at hes; split at hes <;> simp [never] at hes
    | [.row i],hes=>simp only [D.subs,D.sub,renF] at hes; split at hes <;> simp [never] at hes
    | [.elm i n z off],hes=>simp only [D.subs,D.sub,renF] at hes; split at hes <;> simp [never] at hes
    | x :: y :: zs,hes=>simp [D.subs] at hes
    | [.val _],hes | [.str _],hes | [.agg _],hes | [.tup _],hes | [.recs _ _ _],hes | [.el _],hes | [.fn _ _],hes | [.tree _ _ _ _],hes | [.arr _ _ _],hes | [.hole],hes | [],hes=>simp [D.subs,D.sub] at hes
  ·obtain ⟨t1,d1,h1⟩:=hi
   obtain ⟨t2,d2,h2⟩:=hj
   obtain ⟨_,k1,hl1,hm1⟩:=hmine _ _ _ h1
   obtain ⟨_,k2,hl2,hm2⟩:=hmine _ _ _ h2
   have e:=hb.inj k1 k2 b ⟨_,_,hm1⟩ ⟨_,_,hm2⟩ (by simpa [blkOf,pull,hl1] using hBi) (by simpa [blkOf,pull,hl2] using hBj)
   subst e
   exact nodupB_inj hnd (lookup_mem2 hl1) (lookup_mem2 hl2)
  ·simp only [w1,Bc] at h
   split at h
   ·exact h
   ·cases h
 refine ⟨w1,rfl,hbase,hBc,fun F' B' w' hb'=>?_⟩
 have hg:Grow F F' w w':=hb'.grow
 have hsz:=hb.below.size
 have hsame:∀ p,p ∈ c.ren2 → sameB c p = true → B' p.1 = B p.2:=by
  intro p hp hs
  simp only [sameB,Bool.and_eq_true,beq_iff_eq] at hs
  have hm:=hs.2
  rw [List.contains_iff_mem] at hm
  obtain ⟨⟨j,t,ds⟩,hm,hj⟩:=List.mem_map.1 hm
  simp only at hj
  subst hj
  obtain ⟨_,k,hl,hmk⟩:=hmine _ _ _ hm
  rw [hs.1] at hl; cases hl
  have hpk:pull c.ren B p.1 = B p.2:=by simp [pull,hs.1]
  cases hB:B p.2 with
  | none =>
   have hh:=hb.boxes _ _ _ hmk
   obtain ⟨es,hes⟩:∃ es,D.subs (renF never c.ren) ds = es:=⟨_,rfl⟩
   rw [hes] at hh
   cases hh with
   | box _ b us hB'=>rw [hB] at hB'; cases hB'
   | row m d enc l p n cap hB'=>rw [hB] at hB'; cases hB'
   | map kk ag d enc l b hB'=>rw [hB] at hB'; cases hB'
   | obj b o S hB'=>rw [hB] at hB'; cases hB'
  | some r=>exact hb'.env p.1 r (by simp only [w1]; rw [hBc _ _ _ hm,hpk,hB])
 have hold:∀ k,(newKeys c).contains k = false → env2 c.ren2 B B' k = B k:=by
  intro k hk
  by_cases hex:∃ j,(j,k) ∈ c.ren2
  ·obtain ⟨j,hj⟩:=hex
   rw [env2_some hnd2 hj]
   by_cases hs:sameB c (j,k) = true
   ·exact hsame _ hj hs
   ·have:k ∈ newKeys c:=List.mem_map.2 ⟨(j,k),List.mem_filter.2 ⟨hj,by simpa using hs⟩,rfl⟩
    rw [← List.contains_iff_mem,hk] at this; cases this
  ·exact env2_none fun j hj=>hex ⟨j,hj⟩
 have hren:∀ j k,c.ren2.lookup j = some k → env2 c.ren2 B B' k = B' j:=fun j k hl=>env2_some hnd2 (lookup_mem2 hl)
 have hsub:SubOK F' w' B' (env2 c.ren2 B B') (renF .hole c.ren2):=renF_ok hren
 have hrest:∀ k t ds,(k,t,ds) ∈ (L.filter fun x=>!((handed c).contains x.1) && (newKeys c).all fun k=>!(x.1 == k) && !(D.namess k x.2.2)) →
   memL L k t ds ∧ env2 c.ren2 B B' k = B k ∧ (∀ j,D.namess j ds = true → env2 c.ren2 B B' j = B j) ∧ ∀ b,blkOf B k = some b → ¬ w1.own b:=by
  intro k t ds hx
  obtain ⟨hm,hcnd⟩:=List.mem_filter.1 hx
  simp only [Bool.and_eq_true,Bool.not_eq_true',List.all_eq_true] at hcnd
  obtain ⟨hnh,hnk⟩:=hcnd
  have hn1:∀ j,D.namess j ds = true → (newKeys c).contains j = false:=by
   intro j hj
   cases hcc:(newKeys c).contains j with
   | false=>rfl
   | true=>rw [List.contains_iff_mem] at hcc; have:=(hnk j hcc).2; rw [hj] at this; cases this
  refine ⟨hm,hold k ?_,fun j hj=>hold j (hn1 j hj),fun b hbk hob=>?_⟩
  ·cases hcc:(newKeys c).contains k with
   | false=>rfl
   | true=>rw [List.contains_iff_mem] at hcc; have:=(hnk k hcc).1; simp at this
  ·obtain ⟨j,k',t',ds',_,_,hmj,hl,hmk',hbk'⟩:=hown b hob
   have:=hb.inj k k' b ⟨_,_,hm⟩ ⟨_,_,hmk'⟩ hbk hbk'
   subst this
   have:(handed c).contains k = true:=by
    rw [List.contains_iff_mem]
    exact List.mem_filterMap.2 ⟨_,hmj,hl⟩
   rw [hnh] at this; cases this
 have hfresh:∀ b,w1.fresh b → w0.fresh b:=by
  rintro b (h | h)
  ·exact .inl (Nat.le_trans hsz h)
  ·obtain ⟨j,k,t,ds,_,_,_,_,hmk,hbk⟩:=hown b h
   exact hb.new _ _ _ _ hmk hbk
 refine ⟨env2 c.ren2 B B',?_,hg,hold,hren,hsub⟩
 have hcase:∀ k t ds,memL (afterB c L) k t ds → (∃ j ds',memL c.Lout j t ds' ∧ c.ren2.lookup j = some k ∧ ds = D.subs (renF .hole c.ren2) ds') ∨ (k,t,ds) ∈ (L.filter fun x=>!((handed c).contains x.1) && (newKeys c).all fun k=>!(x.1 == k) && !(D.namess k x.2.2)):=by
  intro k t ds hm
  rcases List.mem_append.1 hm with h | h
  ·exact .inl (memL_renL2 h)
  ·exact .inr h
 refine ⟨fun k t ds hm=>?_,fun k t ds b hm hbk=>?_,fun i j b hi hj hBi hBj=>?_,hb'.frz,fun g k hF=>?_,hb.grow.trans hg,?_,fun k b hk=>?_⟩
 ·rcases hcase _ _ _ hm with ⟨j,ds',hm',hl,rfl⟩ | hx
  ·have hB2:=hren _ _ hl
   cases hb'.boxes _ _ _ hm' with
   | box _ b us hB hr' hfl hh hnf=>exact .box _ b us (hB2.trans hB) (hr'.sub hsub) (subs_flat renF_flat hfl) hh hnf
   | row m d enc l p n cap hB hrow=>exact .row m d enc l p n cap (hB2.trans hB) hrow
   | map kk ag d enc l b hB hmap=>exact .map kk ag d enc l b (hB2.trans hB) hmap
   | obj b o S hB h2 h3 h4 h5=>exact .obj b o S (hB2.trans hB) h2 h3 h4 h5
  ·obtain ⟨hm',hk,hn,hno⟩:=hrest _ _ _ hx
   have hh:=hb.boxes _ _ _ hm'
   refine hh.grow hg hk (fun F w vs hr=>hr.reenv hn) fun b hbk=>?_
   have hlb:=hh.lt hbk
   refine ⟨hb'.below.block b hlb (hno b hbk),fun j hj=>?_⟩
   rcases hb'.more _ _ hj with h | h | h
   ·exact h
   ·exact absurd hlb (Nat.not_lt.2 h)
   ·exact absurd h (hno b hbk)
 ·rcases hcase _ _ _ hm with ⟨j,ds',hm',hl,rfl⟩ | hx
  ·rw [blkOf_ne (B:=fun _=>B' j) (hren _ _ hl)] at hbk
   exact hfresh b (hb'.new _ _ _ _ hm' hbk)
  ·obtain ⟨hm',hk,_,_⟩:=hrest _ _ _ hx
   rw [blkOf_ne hk] at hbk
   exact hb.new _ _ _ _ hm' hbk
 ·obtain ⟨t1,d1,h1⟩:=hi
  obtain ⟨t2,d2,h2⟩:=hj
  have hdis:∀ (i j:Nat) (t1:Nat) (d1:List D) (t2:Nat) (d2:List D) (jc:Nat) (ds':List D),memL c.Lout jc t1 ds' → blkOf B' jc = some b → (j,t2,d2) ∈ (L.filter fun x=>!((handed c).contains x.1) && (newKeys c).all fun k=>!(x.1 == k) && !(D.namess k x.2.2)) → blkOf (env2 c.ren2 B B') j = some b → False:=by
   intro i j t1 d1 t2 d2 jc ds' hm1 hb1 hx hb2
   obtain ⟨hm',hk,_,hno⟩:=hrest _ _ _ hx
   rw [blkOf_ne hk] at hb2
   rcases hb'.new _ _ _ _ hm1 hb1 with h | h
   ·exact absurd (hlt _ _ _ hm' _ hb2) (Nat.not_lt.2 h)
   ·exact hno b hb2 h
  rcases hcase _ _ _ h1 with ⟨j1,ds1,hm1,hl1,rfl⟩ | hx1
  ·rw [blkOf_ne (B:=fun _=>B' j1) (hren _ _ hl1)] at hBi
   rcases hcase _ _ _ h2 with ⟨j2,ds2,hm2,hl2,rfl⟩ | hx2
   ·rw [blkOf_ne (B:=fun _=>B' j2) (hren _ _ hl2)] at hBj
    have e:j1 = j2:=hb'.inj j1 j2 b ⟨_,_,hm1⟩ ⟨_,_,hm2⟩ hBi hBj
    subst e
    rw [hl1] at hl2; exact Option.some.inj hl2
   ·exact (hdis i j _ [] _ _ _ _ hm1 hBi hx2 hBj).elim
  ·rcases hcase _ _ _ h2 with ⟨j2,ds2,hm2,hl2,rfl⟩ | hx2
   ·rw [blkOf_ne (B:=fun _=>B' j2) (hren _ _ hl2)] at hBj
    exact (hdis j i _ [] _ _ _ _ hm2 hBj hx1 hBi).elim
   ·obtain ⟨hm1',hk1,_,_⟩:=hrest _ _ _ hx1
    obtain ⟨hm2',hk2,_,_⟩:=hrest _ _ _ hx2
    rw [blkOf_ne hk1] at hBi
    rw [blkOf_ne hk2] at hBj
    exact hb.inj i j b ⟨_,_,hm1'⟩ ⟨_,_,hm2'⟩ hBi hBj
 ·rcases hb'.more _ _ hF with h | h
  ·exact hb.more _ _ h
  ·exact .inr (hfresh _ h)
 ·refine hb.below.trans ⟨hb'.below.os,hb'.below.tape,hb'.below.output,hb'.below.size,fun k hk hno=>?_⟩
  refine hb'.below.block k (Nat.lt_of_lt_of_le hk hsz) fun ho=>?_
  rcases hfresh k (.inr ho) with h | h
  ·exact absurd hk (Nat.not_lt.2 h)
  ·exact hno h
 ·have hkl:LIM ≤ k:=w0.low k (by rw [hk]; exact fun e=>by cases e)
  rw [← hb.env k b hk]
  refine hold k ?_
  cases hcc:(newKeys c).contains k with
  | false=>rfl
  | true =>
   rw [List.contains_iff_mem] at hcc
   obtain ⟨p,hp,rfl⟩:=List.mem_map.1 hcc
   obtain ⟨hp1,hp2⟩:=List.mem_filter.1 hp
   have:=List.all_eq_true.1 hlow p hp1
   simp only [Bool.or_eq_true,decide_eq_true_eq] at this
   rcases this with h | h
   ·exact absurd hkl (Nat.not_le.2 h)
   ·rw [h] at hp2; cases hp2
theorem wp_callB {o:Oper} {f:Nat} {args:List D} {c:CBd} {K:Act → World → Prop} (h:OutOK P F w B (memL L) a o (.call f args)) (hb:Base F0 w0 B F (memL L) w) (hok:cbOK c = true) (hc:CbOb (CallsB P) f args (found c L) c)
  (hK:∀ v w' F' B2,Base F0 w0 B2 F' (memL (afterB c L)) w' → Grow F F' w w' → (∀ k,(newKeys c).contains k = false → B2 k = B k) → Rep F' w' B2 (c.r.sub (renF .hole c.ren2)) v → K (a.put o.dst v) w'):o.wp P a w K Q:=by
 obtain ⟨vs,hr,hrun⟩:=h
 obtain ⟨⟨hf,hcalls⟩,hargs,hLin⟩:=hc
 subst hargs
 obtain ⟨w1,rfl,hbase,_,hafter⟩:=callB_env hb hok hLin
 unfold Oper.wp
 rw [hrun,run_callFunc hf]
 refine (hcalls F w1 (pull c.ren B) vs hbase (RepL.pull c.ds hr)).mono ?_
 rintro e w' ⟨v,F',B',rfl,hv,hb'⟩
 obtain ⟨B2,h1,h2,h3,_,h4⟩:=hafter F' B' w' hb'
 exact hK v w' F' B2 h1 h2 h3 (hv.sub h4)
def PanB (P:Program) (f:Nat) (ds:List D) (Lin:Boxes) (pv:Value) (Lout:Boxes):Prop :=
 FOK P f ∧ ∀ (F:Fz) (w1:Pt P) (B:Env) (args:List Value),Base F w1 B F (memL Lin) w1.w → RepL F w1.w B ds args →
  Calls P f args.toArray w1.w fun e w'=>∃ F' B',e = .panicked [{ v:=pv,recovered:=false }] ∧ Base F w1 B' F' (memL Lout) w'
theorem wp_panB {o:Oper} {f:Nat} {args:List D} {c:CBd} {pv:Value} {K:Act → World → Prop} (h:OutOK P F w B (memL L) a o (.call f args)) (hb:Base F0 w0 B F (memL L) w) (hok:cbOK c = true)
  (hc:PanB P f c.ds c.Lin pv c.Lout ∧ args = D.subs (renF never c.ren) c.ds ∧ found c L = c.Lin.map fun x=>some (x.2.1,D.subs (renF never c.ren) x.2.2))
  (hK:∀ w' F' B2,Base F0 w0 B2 F' (memL (afterB c L)) w' → Grow F F' w w' → (∀ k,(newKeys c).contains k = false → B2 k = B k) → Q (.panic [{ v:=pv,recovered:=false }]) a w'):o.wp P a w K Q:=by
 obtain ⟨vs,hr,hrun⟩:=h
 obtain ⟨⟨hf,hcalls⟩,hargs,hLin⟩:=hc
 subst hargs
 obtain ⟨w1,rfl,hbase,_,hafter⟩:=callB_env hb hok hLin
 unfold Oper.wp
 rw [hrun,run_callFunc hf]
 refine (hcalls F w1 (pull c.ren B) vs hbase (RepL.pull c.ds hr)).mono ?_
 rintro e w' ⟨F',B',rfl,hb'⟩
 obtain ⟨B2,h1,h2,h3,_,h4⟩:=hafter F' B' w' hb'
 exact hK w' F' B2 h1 h2 h3
end
end Go.Proofs.YtibgdilkodjojaaGreatDoor.RX
