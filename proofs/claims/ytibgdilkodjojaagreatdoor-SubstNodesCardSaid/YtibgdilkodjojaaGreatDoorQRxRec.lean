import Derived.Test.YtibgdilkodjojaaGreatDoorQRxPan
import Derived.Recover
set_option linter.all false
namespace Go.Proofs.YtibgdilkodjojaaGreatDoor.RX
open Go.RowKit
section
variable {P:Program} {Γ:Nat → Option TI} {nt:Nat} {F0:Fz} {w0:Pt P} {K K':List (Nat × D)} {L L':Boxes} {Q:Exit → Act → World → Prop}
theorem wpS_recover {id t5 t2:Nat} {o0 o1:Oper} {a:Act} {cs:List Frame} {w:World} {QS:Exit → Act → List Frame → World → Prop}
    (h0:∀ (a:Act) (w:World),(execOp a.eval o0).run P w = .ok .recover w) (d0:o0.dst = some t5) (g0:o0.guard = none) (h1:o1.op = .assign (.tmp t5)) (d1:o1.dst = some t2) (g1:o1.guard = none) (ht:t5 < a.tmps.size)
    (h:match recoverD cs with | some (v,cs')=>QS .normal ((a.put (some t5) v).put (some t2) v) cs' w | none=>QS .normal ((a.put (some t5) .nilIface).put (some t2) .nilIface) cs w) :
    (Code.region id #[o0,o1] false).wpS P QS a cs w:=by
  refine wpS_region ?_
  show wpOpsS P #[o0,o1] QS [0,1] a cs w
  have hw0:Region.wanted o0 (yielded #[o0,o1] a.tmps) = true:=by simp [Region.wanted,g0]
  have i0:(#[o0,o1]:Array Oper)[0]? = some o0:=rfl
  have i1:(#[o0,o1]:Array Oper)[1]? = some o1:=rfl
  simp only [wpOpsS,i0,hw0,if_true,h0]
  have key:∀ (v:Value) (cs':List Frame),QS .normal ((a.put (some t5) v).put (some t2) v) cs' w → wpOpsS P #[o0,o1] QS [1] (a.put o0.dst v) cs' w:=by
    intro v cs' hq
    have hw1:Region.wanted o1 (yielded #[o0,o1] (a.put o0.dst v).tmps) = true:=by simp [Region.wanted,g1]
    simp only [wpOpsS,i1,hw1,if_true]
    rw [d0]
    have hv:(a.put (some t5) v).tmps[t5]? = some v:=put_same ht
    have e1:(execOp (a.put (some t5) v).eval o1).run P w = .ok (.value v) w:=by
      unfold execOp
      simp only [h1,eval_tmp hv,Sem.run_pure]
    rw [e1]
    simp only [Oper.upon_value,d1]
    exact hq
  split at h
  · rename_i v cs' hr
    rw [hr]
    have:=key v cs' h
    simp only [wpOpsS,i1] at this
    exact this
  · rename_i hr
    have:=key .nilIface cs h
    simp only [wpOpsS,i1,hr] at this ⊢
    exact this
theorem Wp.regionIfNil {id t0 t3 t4 ty yt:Nat} {o1 o2:Oper} {v:Value} {b:Bool}
    (h1:o1.op = .move (.tmp t0)) (d1:o1.dst = some t3) (g1:o1.guard = none)
    (h2:o2.op = .binOp .neq ty (.tmp t3) (.const .nilIface) yt) (d2:o2.dst = some t4) (g2:o2.guard = none)
    (hlt:t3 < nt ∧ t4 < nt ∧ t3 ≠ t4) (hK:K.lookup t0 = some (.val v))
    (hrun:∀ w,(eqGuard .neq ty (.tmp t3) (.const .nilIface) v .nilIface).run P w = .ok () w ∧ (binOp .neq ty v .nilIface).run P w = .ok (.bool b) w)
    (hn:To nt F0 w0 ((t4,.val (.bool b)) :: K.filter fun x=>x.1 != t3 && x.1 != t4) L .normal Q) :
    Wp P nt F0 w0 K L (.region id #[o1,o2] false) Q:=by
  rintro a w ⟨B,F,hb,hd,hs,hk⟩
  obtain ⟨v',hv,hr⟩:=hk _ (mem_of_lookup hK)
  cases hr
  refine region_in (l:=[o1,o2]) (fun o ho c hc=>?_) ?_
  · rcases List.mem_cons.1 ho with rfl | ho
    · rw [h1] at hc; cases hc
    · rw [List.mem_singleton.1 ho,h2] at hc; cases hc
  have e1:(execOp a.eval o1).run P w = .ok (.value v) w:=by
    unfold execOp
    simp only [h1,eval_tmp hv,Sem.run_pure]
  have hw1:Region.wanted o1 (yielded #[o1,o2] a.tmps) = true:=by simp [Region.wanted,g1]
  show wpList P #[o1,o2] (nrm Q) [o1,o2] a w
  unfold wpList
  rw [if_pos hw1]
  refine .inl ?_
  unfold Oper.wp
  rw [e1,Oper.upon_value,d1]
  have hv3:(a.put (some t3) v).tmps[t3]? = some v:=put_same (by omega)
  have e2:(execOp (a.put (some t3) v).eval o2).run P w = .ok (.value (.bool b)) w:=by
    unfold execOp
    have hc:(a.put (some t3) v).eval (.const .nilIface) = .nilIface:=rfl
    simp only [h2,eval_tmp hv3,hc,Sem.run_bind,(hrun w).1,(hrun w).2,Result.andThen_ok,Sem.run_pure]
  have hw2:Region.wanted o2 (yielded #[o1,o2] (a.put (some t3) v).tmps) = true:=by simp [Region.wanted,g2]
  unfold wpList
  rw [if_pos hw2]
  refine .inl ?_
  unfold Oper.wp
  rw [e2,Oper.upon_value,d2]
  refine wpList_nil (hn _ _ ⟨B,F,hb,by rw [put_defers,put_defers]; exact hd,by rw [put_size,put_size]; exact hs,fun x hx=>?_⟩)
  rcases List.mem_cons.1 hx with rfl | hx
  · exact ⟨_,put_same (by rw [put_size,hs]; exact hlt.2.1),.val _ rfl⟩
  · obtain ⟨hx1,hx2⟩:=List.mem_filter.1 hx
    simp only [Bool.and_eq_true,bne_iff_ne,ne_eq] at hx2
    obtain ⟨y,h3,h4⟩:=hk x hx1
    exact ⟨y,by rw [put_other hx2.2,put_other hx2.1]; exact h3,h4⟩
theorem Wp.regionTA (hΓ:ΓOK P Γ) {id:Nat} {o0 o1 o2:Oper} {l:List Oper} {s t9 t10 t8 T xt:Nat} {v:Value} {d:D} (fz:List (Nat × List Nat)) (orc:List (Nat × D)) (orb:List (Nat × CBd)) (kk kl:List Nat) {ob:List Prop}
    (h0:o0.op = .move (.tmp s)) (g0:o0.guard = none) (d0:o0.dst = some t9) (h1:o1.op = .typeAssert (.tmp t9) xt T true) (g1:o1.guard = none) (d1:o1.dst = some t10)
    (h2:o2.op = .move (.tmp t10)) (g2:o2.guard = none) (d2:o2.dst = some t8) (hT:notIface P T = true)
    (hs:K.lookup s = some (.val (.iface T v))) (hd:∀ F w B,Rep F w B d v) (hlt:t9 < nt ∧ t10 < nt ∧ t8 < nt) (hKt:(K.all fun y=>!(y.1 == t9) && !(y.1 == t10) && !(y.1 == t8)) = true)
    (h:(match evOps (CX P) (CallsB P) Γ nt orc orb (o0 :: o1 :: o2 :: l) fz l 3 (startES ((t8,.tup [d,.val (.bool true)]) :: K) L) with | some s=>(match keepK s.K kk,keepL s.L kl with | some K',some L'=>some (K',L',s.obl) | _,_=>none) | none=>none) = some (K',L',ob)) (hob:AllP ob)
    (hn:To nt F0 w0 K' L' .normal Q):Wp P nt F0 w0 K L (.region id (o0 :: o1 :: o2 :: l).toArray false) Q:=by
  obtain ⟨u,hu,hni⟩:=notIface_spec hT
  rintro a w ⟨B,F,hb,hdf,hsz,hK⟩
  split at h
  rotate_left
  · cases h
  rename_i s' hs'
  split at h
  rotate_left
  · cases h
  rename_i K1 L1 hkk hll
  cases h
  obtain ⟨v',hv,hrv⟩:=hK _ (mem_of_lookup hs)
  cases hrv
  refine region_in (fun x hx=>?_) ?_
  · rcases List.mem_cons.1 hx with rfl | hx
    · intro c hc; rw [h0] at hc; cases hc
    rcases List.mem_cons.1 hx with rfl | hx
    · intro c hc; rw [h1] at hc; cases hc
    rcases List.mem_cons.1 hx with rfl | hx
    · intro c hc; rw [h2] at hc; cases hc
    · exact evOps_nd _ _ hs' x hx
  have hw:∀ (o:Oper) (a:Act),o.guard = none → Region.wanted o (yielded (o0 :: o1 :: o2 :: l).toArray a.tmps) = true:=fun o a hg=>by simp [Region.wanted,hg]
  have e0:(execOp a.eval o0).run P w = .ok (.value (.iface T v)) w:=by
    unfold execOp
    simp only [h0,eval_tmp hv,Sem.run_pure]
  unfold wpList
  rw [if_pos (hw _ _ g0)]
  refine .inl ?_
  unfold Oper.wp
  rw [e0,Oper.upon_value,d0]
  have hv9:(a.put (some t9) (.iface T v)).tmps[t9]? = some (.iface T v):=put_same (by omega)
  have e1:(execOp (a.put (some t9) (.iface T v)).eval o1).run P w = .ok (.value (.tuple #[v,.bool true])) w:=by
    unfold execOp
    simp only [h1,eval_tmp hv9,Sem.run_bind,Instr.typeAssert,run_underlying hu,Result.andThen_ok]
    cases u <;> first | (simp; done) | exact absurd rfl (hni _)
  unfold wpList
  rw [if_pos (hw _ _ g1)]
  refine .inl ?_
  unfold Oper.wp
  rw [e1,Oper.upon_value,d1]
  have hv10:((a.put (some t9) (.iface T v)).put (some t10) (.tuple #[v,.bool true])).tmps[t10]? = some (.tuple #[v,.bool true]):=put_same (by rw [put_size]; omega)
  have e2:(execOp ((a.put (some t9) (.iface T v)).put (some t10) (.tuple #[v,.bool true])).eval o2).run P w = .ok (.value (.tuple #[v,.bool true])) w:=by
    unfold execOp
    simp only [h2,eval_tmp hv10,Sem.run_pure]
  unfold wpList
  rw [if_pos (hw _ _ g2)]
  refine .inl ?_
  unfold Oper.wp
  rw [e2,Oper.upon_value,d2]
  refine evOps_sound hΓ l 3 (fun j=>by simp [Nat.add_comm]) hs' (AllP.mem hob) (B:=B) (F:=F) ?_ fun B' F' a' w' hi=>hn a' w' (end_inv hi hkk hll)
  refine ⟨hb,by rw [put_defers,put_defers,put_defers]; exact hdf,by rw [put_size,put_size,put_size]; exact hsz,fun e he=>?_,fun e he=>?_,fun e he=>?_,fun e he j hj=>?_⟩
  all_goals
    obtain ⟨y,hy,rfl⟩:=List.mem_map.1 he
  · refine ⟨fun _=>?_,fun h=>by simp [holds] at h⟩
    rcases List.mem_cons.1 hy with rfl | hy
    · exact ⟨_,put_same (by rw [put_size,put_size]; omega),.tup _ [v,.bool true] (.cons _ _ _ _ (hd _ _ _) (.cons _ _ _ _ (.val _ rfl) .nil))⟩
    · have hne:=List.all_eq_true.1 hKt y hy
      simp only [Bool.and_eq_true,Bool.not_eq_true',beq_eq_false_iff_ne,ne_eq] at hne
      obtain ⟨v,q1,q2⟩:=hK y hy
      exact ⟨v,by simp only; rw [put_other hne.2,put_other hne.1.2,put_other hne.1.1]; exact q1,q2⟩
  · simp
  · exact .inl rfl
  · simp at hj
theorem callsX_ofD {f : Nat} {fn : Func} {c : Code} {ds : List D} {r : D} (hf : P.funcs[f]? = some fn) (hbody : fn.body = some c) (hname : (fn.name == "runtime.NumGoroutine") = false) (hn : ds.length ≤ fn.ntmps)
    (h:∀ (F0:Fz) (w0:World) (hsh:Shp P w0),Wp P fn.ntmps F0 (.top w0 hsh) (ds.zipIdx.map fun x=>(x.2,x.1)) [] c (bodyPostD P fn (PostX F0 w0 r))):CallsX P f ds r:=by
  refine ⟨⟨fn,hf,hname,by rw [hbody]; rfl⟩,fun F w args hsh hF hr=>?_⟩
  have hlen:=RepL.length hr
  refine calls_of_wp_defers hf hbody (h F w hsh _ w ⟨NB,F,?_,rfl,?_,fun x hx=>?_⟩).wp
  · exact ⟨(fun k t ds hl=>by simp [memL] at hl),(fun k t ds b hl=>by simp [memL] at hl),(fun i j b hi=>by obtain ⟨t,ds,hx⟩:=hi; simp [memL] at hx),hF,fun g k h=>.inl h,Grow.refl _ _,BelowS.refl _ _ _,fun k b h=>by cases h⟩
  · simp; omega
  · obtain ⟨y,hy,rfl⟩:=List.mem_map.1 hx
    obtain ⟨d,i⟩:=y
    have hd:ds[i]? = some d:=by
      have:=List.mem_zipIdx_iff_getElem?.1 hy
      simpa using this
    obtain ⟨v,hv,hrep⟩:=hr.get i hd
    refine ⟨v,?_,hrep⟩
    have hi:i < args.length:=(List.getElem?_eq_some_iff.1 hv).1
    simp only
    rw [Array.getElem?_append_left (by simpa using hi)]
    simpa using hv
def DefB (P:Program) (f:Nat) (ds:List D) (Lin:Boxes) (u u':FrameMode) (Lout:Boxes):Prop :=
  ∀ (F:Fz) (w1:Pt P) (B:Env) (args:List Value),Base F w1 B F (memL Lin) w1.w → RepL F w1.w B ds args →
    CallsD P f args.toArray u w1.w fun e m w'=>∃ F' B',e = .returned (.tuple #[]) ∧ m = u' ∧ Base F w1 B' F' (memL Lout) w'
theorem Base.defs {B:Env} {F:Fz} {w:World} {M:Mem} {ro:Option Nat} {ds:List Deferred} (h:Base F0 w0 B F M w):Base F0 { w0 with rnd:=ro,defs:=ds } B F M w:=⟨h.boxes,h.new,h.inj,h.frz,h.more,h.grow,h.below,h.env⟩
theorem Base.ofdefs {B:Env} {F:Fz} {w:World} {M:Mem} {ro:Option Nat} {ds:List Deferred} (h:Base F0 { w0 with rnd:=ro,defs:=ds } B F M w):Base F0 w0 B F M w:=⟨h.boxes,h.new,h.inj,h.frz,h.more,h.grow,h.below,h.env⟩
def Door (P:Program) (nt:Nat) (fd t4 t5 T4 T5:Nat) (pv:Value) (ds4 ds5:List D) (F1:Fz) (w1:Pt P) (e:Exit) (a:Act) (w:World):Prop :=
  ∃ cs4 cs5,St nt F1 w1 [(t4,.own 1000000 0),(t5,.own 1000001 0)] [(1000000,T4,cs4),(1000001,T5,cs5)] a w ∧ D.noOwns cs4 = true ∧ D.noOwns cs5 = true ∧
    ((e = .ret ∧ DefB P fd [.own 1000000 0,.own 1000001 0] [(1000000,T4,cs4),(1000001,T5,cs5)] .returning .returning [(1000000,T4,ds4),(1000001,T5,ds5)]) ∨
     (e = .panic [{ v:=pv,recovered:=false }] ∧ DefB P fd [.own 1000000 0,.own 1000001 0] [(1000000,T4,cs4),(1000001,T5,cs5)] (.panicking [{ v:=pv,recovered:=false }]) (.panicking [{ v:=pv,recovered:=true }]) [(1000000,T4,ds4),(1000001,T5,ds5)]))
mutual
theorem D.sub_id {s:D → Option D}:∀ (d:D),d.noOwn = true → D.sub s d = d
  | .own _ _,h=>by simp [D.noOwn] at h
  | .opt _,h=>by simp [D.noOwn] at h
  | .srow _,h=>by simp [D.noOwn] at h
  | .mp _,h=>by simp [D.noOwn] at h
  | .row _,h=>by simp [D.noOwn] at h
  | .elm _ _ _ _,h=>by simp [D.noOwn] at h
  | .agg ds,h=>by simp only [D.sub]; rw [D.subs_id ds (by simpa [D.noOwn] using h)]
  | .tup ds,h=>by simp only [D.sub]; rw [D.subs_id ds (by simpa [D.noOwn] using h)]
  | .fn f ds,h=>by simp only [D.sub]; rw [D.subs_id ds (by simpa [D.noOwn] using h)]
  | .val _,_=>rfl
  | .str _,_=>rfl
  | .mapc _ _ _ _ _,_=>rfl
  | .recs _ _ _,_=>rfl
  | .el _,_=>rfl
  | .rowc _ _ _ _,_=>rfl
  | .tree _ _ _ _,_=>rfl
  | .arr _ _ _,_=>rfl
  | .hole,_=>rfl
  | .objc _ _ _,_=>rfl
theorem D.subs_id {s:D → Option D}:∀ (ds:List D),D.noOwns ds = true → D.subs s ds = ds
  | [],_=>rfl
  | d :: ds,h=>by
    have h':D.noOwn d = true ∧ D.noOwns ds = true:=by simpa [D.noOwns] using h
    simp only [D.subs]
    rw [D.sub_id d h'.1,D.subs_id ds h'.2]
end
theorem defer2_door (hΓ:ΓOK P Γ) {fn:Func} {fd t4 t5 k4 k5 T4 T5:Nat} {pv:Value} {ds4 ds5:List D} {r:D} {wt:World} {hsh:Shp P wt} {F:Fz} {b4 b5:Nat} {w1:Pt P} {d:Deferred} {e:Exit} {a2:Act} {w':World}
    (hf:FOK P fd) (hd:d = { target:=.fn (.func fd) #[.pointer (some ⟨b4,0,none⟩),.pointer (some ⟨b5,0,none⟩)],args:=#[] })
    (hds4:D.noOwns ds4 = true) (hds5:D.noOwns ds5 = true) (henv4:w1.env 1000000 = some (.box b4)) (henv5:w1.env 1000001 = some (.box b5))
    (hafter:∀ F' B' w',Base F w1 B' F' (memL [(1000000,T4,ds4),(1000001,T5,ds5)]) w' → ∃ B2,Base F0 (.top wt hsh) B2 F' (memL [(k4,T4,ds4),(k5,T5,ds5)]) w' ∧ B2 k4 = B' 1000000 ∧ B2 k5 = B' 1000001)
    (hret:evRet Γ [(t4,.own k4 0),(t5,.own k5 0)] [(k4,T4,ds4),(k5,T5,ds5)] fn.results.toList = some r)
    (h:Door P nt fd t4 t5 T4 T5 pv ds4 ds5 F { w1 with rnd:=none,defs:=[d] } e a2 w'):bodyPostD P fn (PostX F0 wt r) e a2 w':=by
  obtain ⟨cs4,cs5,⟨B',F',hb',hdf,hsz,hK⟩,hn4,hn5,hc⟩:=h
  have hb1:=hb'.ofdefs
  have hB4:B' 1000000 = some (.box b4):=hb1.env _ _ henv4
  have hB5:B' 1000001 = some (.box b5):=hb1.env _ _ henv5
  have key:∀ u u',u ≠ .run → Go.settle u' = .returning → DefB P fd [.own 1000000 0,.own 1000001 0] [(1000000,T4,cs4),(1000001,T5,cs5)] u u' [(1000000,T4,ds4),(1000001,T5,ds5)] → Leaves P fn a2.tmps (PostX F0 wt r) a2.defers u w':=by
    intro u u' hu hset hdef
    rw [hdf]
    show Leaves P fn a2.tmps (PostX F0 wt r) [d] u w'
    subst hd
    refine leaves_cons (f:=fd) (args:=#[.pointer (some ⟨b4,0,none⟩),.pointer (some ⟨b5,0,none⟩)]) hu (by simp only [invoke]; rw [run_callFunc hf]; rfl) ?_
    let c:CBd:=⟨[(1000000,1000000),(1000001,1000001)],[(1000000,1000000),(1000001,1000001)],[],[(1000000,T4,cs4),(1000001,T5,cs5)],.hole,[(1000000,T4,ds4),(1000001,T5,ds5)]⟩
    obtain ⟨w2,rfl,hbase2,_,hafter2⟩:=callB_env (c:=c) hb1 (by rfl) (by
      show [some (T4,cs4),some (T5,cs5)] = [some (T4,D.subs _ cs4),some (T5,D.subs _ cs5)]
      rw [D.subs_id cs4 hn4,D.subs_id cs5 hn5])
    have hp4:pull c.ren B' 1000000 = some (.box b4):=hB4
    have hp5:pull c.ren B' 1000001 = some (.box b5):=hB5
    refine (hdef F' w2 (pull c.ren B') [.pointer (some ⟨b4,0,none⟩),.pointer (some ⟨b5,0,none⟩)] hbase2 (.cons _ _ _ _ (.own _ _ _ hp4) (.cons _ _ _ _ (.own _ _ _ hp5) .nil))).mono ?_
    rintro e m w'' ⟨F'',B'',rfl,rfl,hb''⟩
    obtain ⟨B3,hb3,_,hold,_,_⟩:=hafter2 F'' B'' w'' hb''
    have hafterL:afterB c [(1000000,T4,cs4),(1000001,T5,cs5)] = [(1000000,T4,D.subs (renF .hole c.ren2) ds4),(1000001,T5,D.subs (renF .hole c.ren2) ds5)]:=rfl
    rw [hafterL,D.subs_id ds4 hds4,D.subs_id ds5 hds5] at hb3
    have hb3':=hb3
    obtain ⟨B4,hb4,he4,he5⟩:=hafter F'' B3 w'' hb3'
    have hB34:B3 1000000 = some (.box b4):=(hold _ rfl).trans hB4
    have hB35:B3 1000001 = some (.box b5):=(hold _ rfl).trans hB5
    show Leaves P fn a2.tmps (PostX F0 wt r) [] (Go.settle m) w''
    rw [hset]
    have hdone:=(To.done (K:=[(t4,.own k4 0),(t5,.own k5 0)]) (L:=[(k4,T4,ds4),(k5,T5,ds5)]) (nt:=nt) (F0:=F0) hΓ (hsh:=hsh) hret) { a2 with defers:=[] } w'' ⟨B4,F'',hb4,rfl,hsz,fun x hx=>?_⟩
    · obtain ⟨_,v,h5,h6⟩:=hdone
      exact ⟨v,h5,h6⟩
    · simp only [List.mem_cons,List.not_mem_nil,or_false] at hx
      rcases hx with rfl | rfl
      · obtain ⟨v,h5,h6⟩:=hK (t4,.own 1000000 0) (by simp)
        cases h6 with
        | own _ _ b h7=>rw [hB4] at h7; cases h7; exact ⟨_,h5,.own _ _ _ (he4.trans hB34)⟩
      · obtain ⟨v,h5,h6⟩:=hK (t5,.own 1000001 0) (by simp)
        cases h6 with
        | own _ _ b h7=>rw [hB5] at h7; cases h7; exact ⟨_,h5,.own _ _ _ (he5.trans hB35)⟩
  rcases hc with ⟨rfl,hdef⟩ | ⟨rfl,hdef⟩
  · exact key _ _ (by simp) rfl hdef
  · exact key _ _ (by simp) rfl hdef
theorem Wp.defer2 (hΓ:ΓOK P Γ) {id t4 t5 t7 fd k4 k5 T4 T5:Nat} {o1 o2:Oper} {rest:Code} {fn:Func} {wt:World} {hsh:Shp P wt} {cs4 cs5 ds4 ds5:List D} {pv:Value} {r:D} (K1:List (Nat × D))
    (h1:o1.op = .makeFunc (.func fd) #[] #[.tmp t4,.tmp t5]) (g1:o1.guard = none) (d1:o1.dst = some t7) (h2:o2.op = .defer { callee:=.value (.tmp t7),args:=#[],argTypes:=#[] }) (g2:o2.guard = none) (d2:o2.dst = none)
    (hf:FOK P fd) (ht:t7 < nt ∧ t4 ≠ t7 ∧ t5 ≠ t7) (hK4:K.lookup t4 = some (.own k4 0)) (hK5:K.lookup t5 = some (.own k5 0)) (hk:k4 < 1000000 ∧ k5 < 1000000 ∧ k4 ≠ k5)
    (hn:D.noOwns cs4 = true ∧ D.noOwns cs5 = true ∧ D.noOwns ds4 = true ∧ D.noOwns ds5 = true)
    (hK1:∀ x ∈ K1,x = (t4,.own 1000000 0) ∨ x = (t5,.own 1000001 0) ∨ (x ∈ K ∧ D.noOwn x.2 = true ∧ x.1 ≠ t7))
    (hret:evRet Γ [(t4,.own k4 0),(t5,.own k5 0)] [(k4,T4,ds4),(k5,T5,ds5)] fn.results.toList = some r)
    (hrest:∀ (F1:Fz) (w1:Pt P),w1.rnd = none → Wp P nt F1 w1 K1 [(1000000,T4,cs4),(1000001,T5,cs5)] rest (Door P nt fd t4 t5 T4 T5 pv ds4 ds5 F1 w1)) :
    Wp P nt F0 (.top wt hsh) K [(k4,T4,cs4),(k5,T5,cs5)] (.region id #[o1,o2] false) (Exit.then (fun a w=>XC (Pt.top wt hsh).rnd P rest (bodyPostD P fn (PostX F0 wt r)) a w) (bodyPostD P fn (PostX F0 wt r))):=by
  rintro a w ⟨B,F,hb,hdf,hsz,hK⟩
  obtain ⟨v4,hv4,hr4⟩:=hK _ (mem_of_lookup hK4)
  obtain ⟨v5,hv5,hr5⟩:=hK _ (mem_of_lookup hK5)
  obtain ⟨b4,rfl,hB4⟩:∃ b,v4 = .pointer (some ⟨b,0,none⟩) ∧ B k4 = some (.box b):=by cases hr4 with | own _ _ b h=>exact ⟨b,rfl,h⟩
  obtain ⟨b5,rfl,hB5⟩:∃ b,v5 = .pointer (some ⟨b,0,none⟩) ∧ B k5 = some (.box b):=by cases hr5 with | own _ _ b h=>exact ⟨b,rfl,h⟩
  refine XC.of (wp_region_list ?_)
  obtain ⟨fv,hfv⟩:∃ fv:Value,fv = .func (.func fd) #[] #[.pointer (some ⟨b4,0,none⟩),.pointer (some ⟨b5,0,none⟩)]:=⟨_,rfl⟩
  have hw:∀ (o:Oper) (a:Act),o.guard = none → Region.wanted o (yielded #[o1,o2] a.tmps) = true:=fun o a hg=>by simp [Region.wanted,hg]
  have e1:(execOp a.eval o1).run P w = .ok (.value fv) w:=by
    unfold execOp
    have q1:a.eval (.tmp t4) = .pointer (some ⟨b4,0,none⟩):=eval_tmp hv4
    have q2:a.eval (.tmp t5) = .pointer (some ⟨b5,0,none⟩):=eval_tmp hv5
    simp only [h1,Instr.makeFunc,hfv]
    simp [q1,q2]
  show wpList P #[o1,o2] _ [o1,o2] a w
  unfold wpList
  rw [if_pos (hw _ _ g1)]
  refine .inl ?_
  unfold Oper.wp
  rw [e1,Oper.upon_value,d1]
  have hv7:(a.put (some t7) fv).tmps[t7]? = some fv:=put_same (by rw [hsz]; exact ht.1)
  obtain ⟨d,hd⟩:∃ d:Deferred,d = { target:=.fn (.func fd) #[.pointer (some ⟨b4,0,none⟩),.pointer (some ⟨b5,0,none⟩)],args:=#[] }:=⟨_,rfl⟩
  have e2:(execOp (a.put (some t7) fv).eval o2).run P w = .ok (.defer d) w:=by
    unfold execOp
    have q7:(a.put (some t7) fv).eval (.tmp t7) = fv:=eval_tmp hv7
    simp only [h2,resolve,q7]
    simp [hfv,Deferred.ofValue,hd]
  unfold wpList
  rw [if_pos (hw _ _ g2)]
  refine .inl ?_
  unfold Oper.wp
  rw [e2,Oper.upon_defer,d2]
  refine wpList_nil ?_
  let c:CBd:=⟨[(1000000,k4),(1000001,k5)],[(1000000,k4),(1000001,k5)],[],[(1000000,T4,cs4),(1000001,T5,cs5)],.hole,[(1000000,T4,ds4),(1000001,T5,ds5)]⟩
  have hne:(k5 == k4) = false:=by simpa using fun h=>hk.2.2 h.symm
  have hne':(k4 == k5) = false:=by simpa using hk.2.2
  obtain ⟨w1,hw1,hbase,henv,hafter⟩:=callB_env (c:=c) hb (by simp [cbOK,nodupB,c,hk,hk.2.2]) (by
    have l4:List.lookup k4 [(k4,T4,cs4),(k5,T5,cs5)] = some (T4,cs4):=by simp [List.lookup]
    have l5:List.lookup k5 [(k4,T4,cs4),(k5,T5,cs5)] = some (T5,cs5):=by simp [List.lookup,hne]
    show [List.lookup k4 [(k4,T4,cs4),(k5,T5,cs5)],List.lookup k5 [(k4,T4,cs4),(k5,T5,cs5)]] = [some (T4,D.subs _ cs4),some (T5,D.subs _ cs5)]
    rw [D.subs_id cs4 hn.1,D.subs_id cs5 hn.2.1,l4,l5])
  have hnt:a.defers = []:=hdf
  have hst:St nt F { w1 with rnd:=none,defs:=[d] } K1 [(1000000,T4,cs4),(1000001,T5,cs5)] ({ a.put (some t7) fv with defers:=d :: (a.put (some t7) fv).defers }.put none undef) w:=by
    refine ⟨pull c.ren B,F,hbase.defs,by show d :: (a.put (some t7) fv).defers = [d]; rw [put_defers,hnt],by show (a.put (some t7) fv).tmps.size = nt; rw [put_size]; exact hsz,fun x hx=>?_⟩
    show ∃ v,(a.put (some t7) fv).tmps[x.1]? = some v ∧ _
    rcases hK1 x hx with rfl | rfl | ⟨h3,h4,h5⟩
    · exact ⟨_,by rw [put_other ht.2.1]; exact hv4,.own _ _ _ (by show B k4 = _; exact hB4)⟩
    · exact ⟨_,by rw [put_other ht.2.2]; exact hv5,.own _ _ _ (by show B k5 = _; exact hB5)⟩
    · obtain ⟨v,h6,h7⟩:=hK x h3
      exact ⟨v,by rw [put_other h5]; exact h6,h7.bare h4⟩
  refine wpIn_mono (hrest F { w1 with rnd:=none,defs:=[d] } rfl _ _ hst) fun e a2 w' hdoor=>?_
  refine defer2_door (F0:=F0) (hsh:=hsh) hΓ (k4:=k4) (k5:=k5) (w1:=w1) (F:=F) (d:=d) hf hd hn.2.2.1 hn.2.2.2 ?_ ?_ (fun F' B' w' hb'=>?_) hret hdoor
  · rw [henv 1000000 T4 cs4 (by simp [memL,c])]; exact hB4
  · rw [henv 1000001 T5 cs5 (by simp [memL,c])]; exact hB5
  · obtain ⟨B2,q1,_,_,q2,_⟩:=hafter F' B' w' hb'
    refine ⟨B2,?_,q2 1000000 k4 rfl,q2 1000001 k5 rfl⟩
    have hL:afterB c [(k4,T4,cs4),(k5,T5,cs5)] = [(k4,T4,D.subs (renF .hole c.ren2) ds4),(k5,T5,D.subs (renF .hole c.ren2) ds5)]:=by
      have hh:handed c = [k4,k5]:=rfl
      simp [afterB,renL2,hh,c,List.lookup]
    rw [hL,D.subs_id ds4 hn.2.2.1,D.subs_id ds5 hn.2.2.2] at q1
    exact q1
end
end Go.Proofs.YtibgdilkodjojaaGreatDoor.RX
