import Derived.Test.YtaecmkldkljioaaGreatQP35G
set_option linter.all false
namespace Go.Proofs.YtaecmkldkljioaaGreat.M
open Go Go.Proofs.YtaecmkldkljioaaGreat.RX Go.Proofs.YtaecmkldkljioaaGreat.PL
set_option maxRecDepth 100000
theorem begin_next (c:S_api_Check) (t:Int) (h0:0 ≤ t) (h1:t ≤ 1000000000):probe_Due c (probe_Begin c t) = -1 ∨ t < probe_Due c (probe_Begin c t):=by
 unfold probe_Begin
 by_cases hr:probe_Right c = true
 ·rw [if_neg (by simp [hr])]
  right
  have hd:probe_Due c ⟨1,0,t,IntKind.wrap .i64 (t + c.f_Every)⟩ = IntKind.wrap .i64 (t + c.f_Every):=by
   unfold probe_Due probe_asked
   rw [hr]; rfl
  unfold probe_Right lett at hr
  simp only [Bool.cond_false_right,Bool.and_eq_true,decide_eq_true_eq] at hr
  rw [hd,wrap_id _ (by omega) (by omega)]
  omega
 ·rw [if_pos (by simp [hr])]
  left
  unfold probe_Due probe_asked
  simp
theorem ask_next (c:S_api_Check) (s:S_probe_State) (t:Int) (x:Bool) (h0:0 ≤ s.f_Next) (h1:s.f_Next ≤ 1000000000) (hd:probe_Due c s = s.f_Next) (ha:probe_asked c s = true) (ht:t = s.f_Next):probe_Due c (probe_Ask c s t x).1 = -1 ∨ s.f_Next < probe_Due c (probe_Ask c s t x).1:=by
 have hr:1 ≤ c.f_Every ∧ c.f_Every ≤ 1099511627776:=by
  unfold probe_asked at ha
  simp only [Bool.cond_false_right,Bool.and_eq_true,decide_eq_true_eq] at ha
  have:=ha.1.1
  unfold probe_Right lett at this
  simp only [Bool.cond_false_right,Bool.and_eq_true,decide_eq_true_eq] at this
  omega
 have hw:IntKind.wrap .i64 (s.f_Next + c.f_Every) = s.f_Next + c.f_Every:=wrap_id _ (by omega) (by omega)
 have hn:(probe_Ask c s t x).1.f_Next = s.f_Next + c.f_Every:=by
  unfold probe_Ask
  rw [if_neg (by rw [ha]; simp; omega)]
  simp only [lett]
  unfold probe_Ask_j1
  repeat' split
  all_goals exact hw
 unfold probe_Due
 split
 ·exact .inl rfl
 ·right; rw [hn]; omega
theorem tick_next (b:S_life_Box) (v:Int) (h0:0 ≤ life_Next b) (h1:life_Next b ≤ v) (hv:v ≤ 1000000000):life_Next (life_Tick b v).1 = -1 ∨ life_Next b < life_Next (life_Tick b v).1:=by
 by_cases hs:b.f_State = 2
 ·have hn:life_Next b = probe_Due b.f_Spec.f_Health b.f_Probe:=by unfold life_Next; rw [if_pos (by simpa using hs)]
  have ha:probe_asked b.f_Spec.f_Health b.f_Probe = true:=by
   cases hq:probe_asked b.f_Spec.f_Health b.f_Probe with
   | true=>rfl
   | false=>rw [hn] at h0; unfold probe_Due at h0; rw [hq] at h0; simp at h0
  have hd:probe_Due b.f_Spec.f_Health b.f_Probe = b.f_Probe.f_Next:=by unfold probe_Due; rw [ha]; rfl
  have ht:(life_Tick b v).1 = { b with f_Probe:=(probe_Ask b.f_Spec.f_Health b.f_Probe (life_Next b) b.f_Sick).1 }:=by
   unfold life_Tick lett
   rw [if_neg (by simp; omega),if_pos (by simpa using hs)]
  have e2:life_Next (life_Tick b v).1 = probe_Due b.f_Spec.f_Health (probe_Ask b.f_Spec.f_Health b.f_Probe (life_Next b) b.f_Sick).1:=by
   rw [ht]; unfold life_Next; rw [if_pos (by simpa using hs)]
  rw [e2,hn,hd]
  rw [hn,hd] at h0 h1
  exact ask_next _ _ _ _ h0 (by omega) hd ha rfl
 ·have ht:(life_Tick b v).1 = life_run { b with f_Done:=IntKind.wrap .i64 (b.f_Done + 1) } (life_Next b):=by
   unfold life_Tick lett
   rw [if_neg (by simp; omega),if_neg (by simpa using hs)]
  have e2:life_Next (life_Tick b v).1 = probe_Due b.f_Spec.f_Health (probe_Begin b.f_Spec.f_Health (life_Next b)):=by
   rw [ht]; unfold life_run lett; rfl
  rw [e2]
  exact begin_next _ _ h0 (by omega)
def w35 (v:Int) (b:S_life_Box):Nat:=if 0 ≤ life_Next b ∧ life_Next b ≤ v then (v - life_Next b + 1).toNat else 0
def mu (v:Int) (p:PS):Nat:=(p.bs.map (w35 v)).sum
theorem repl_sum (f:S_life_Box → Nat) (v b:S_life_Box):∀ l:List S_life_Box,(l.find? fun u=>decide (kI u = kI v)) = some b → ((repl kI l v).map f).sum + f b = (l.map f).sum + f v
 | [],h=>by cases h
 | u :: r,h=>by
  rw [List.find?_cons] at h
  unfold repl
  by_cases hu:kI u = kI v
  ·rw [decide_eq_true hu] at h
   cases h
   rw [if_pos hu,List.map_cons,List.map_cons,List.sum_cons,List.sum_cons]; omega
  ·rw [decide_eq_false hu] at h
   have:=repl_sum f v b r h
   rw [if_neg hu,List.map_cons,List.map_cons,List.sum_cons,List.sum_cons]; omega
theorem mu_step {k:Nat} {p:PS} (h:Inv k p) {b:S_life_Box} {v:Int} (hv:v ≤ 1000000000) (hb:b ∈ p.bs) (h0:0 ≤ life_Next b) (h1:life_Next b ≤ v):mu v (p.setB (life_Tick b v).1) < mu v p:=by
 have hid:=tick_id b v
 have hf:(p.bs.find? fun u=>decide (kI u = kI (life_Tick b v).1)) = some b:=by
  have:=find_in h hb
  show (p.bs.find? (qI (life_Tick b v).1.f_Id)) = some b
  rw [hid.1]; exact this
 have hs:=repl_sum (w35 v) (life_Tick b v).1 b p.bs hf
 have e1:w35 v b = (v - life_Next b + 1).toNat:=by unfold w35; rw [if_pos ⟨h0,h1⟩]
 have e2:w35 v (life_Tick b v).1 < w35 v b:=by
  rw [e1]
  unfold w35
  split
  ·rename_i hc
   rcases tick_next b v h0 h1 hv with hn | hn
   ·omega
   ·omega
  ·omega
 show ((repl kI p.bs (life_Tick b v).1).map (w35 v)).sum < (p.bs.map (w35 v)).sum
 omega
theorem tick_ends {k0:Nat} (v:Int) (hv:v ≤ 1000000000):∀ (k:Nat) (acc:List S_host_Event) (p:PS),Inv k0 p → mu v p < k → ∃ r,tickL k v acc p = some r ∧ Inv k0 r.2
 | 0,_,_,_,h=>by omega
 | k + 1,acc,p,hp,h=>by
  rw [tickL]
  cases hf:firstP v p.bs with
  | none=>exact ⟨_,rfl,hp⟩
  | some b =>
   obtain ⟨hb,hb0,hb1⟩:=first_sound hf
   have hid:=tick_id b v
   have:=mu_step hp hv hb hb0 hb1
   exact tick_ends v hv k _ _ (hp.setB hb hid.1 hid.2) (by omega)
theorem mu_le (v:Int) (hv0:0 ≤ v) (p:PS):mu v p ≤ p.bs.length * (v + 1).toNat:=by
 unfold mu
 induction p.bs with
 | nil=>simp
 | cons b l ih =>
  rw [List.map_cons,List.sum_cons,List.length_cons,Nat.add_mul]
  have:w35 v b ≤ (v + 1).toNat:=by unfold w35; split <;> omega
  omega
structure GInv (B:Int) (p:S_fault_Plan):Prop where
 gaps:∀ g ∈ p.f_l,0 ≤ g.f_Skip ∧ g.f_Skip ≤ B ∧ 1 ≤ g.f_Fail ∧ g.f_Fail ≤ B
 more:0 ≤ p.f_more ∧ p.f_more ≤ B
theorem GInv.up {B B':Int} {p:S_fault_Plan} (h:GInv B p) (hb:B ≤ B'):GInv B' p:=⟨fun g hg=>by have:=h.gaps g hg; omega,by have:=h.more; omega⟩
def toPl (p:S_fault_Plan):S_ref34_Plan:=⟨p.f_l,p.f_more⟩
theorem near_eq (x:Int):ref34_near x = fault_near x:=by
 unfold ref34_near fault_near
 by_cases h1:x < 0
 ·rw [if_pos (decide_eq_true h1),if_pos (show (0:Int) > x from h1)]; rfl
 ·rw [if_neg (by simpa using h1),if_neg (show ¬ (0:Int) > x by omega)]
  by_cases h2:x > 1000
  ·rw [if_pos (decide_eq_true h2),if_pos (by omega)]
  ·rw [if_neg (by simpa using h2),if_neg (by omega)]
theorem near_in (x:Int):0 ≤ fault_near x ∧ fault_near x ≤ 1000:=by
 unfold fault_near
 repeat' split
 all_goals omega
theorem GInv.add {B:Int} {p:S_fault_Plan} (h:GInv B p) (hB:B ≤ 1000000000) (g:S_fault_Gap):GInv (B + 1000) (addP p g):=by
 have h1:=near_in g.f_Skip
 have h2:=near_in g.f_Fail
 have h3:=h.more
 have hw:IntKind.wrap .i64 (p.f_more + fault_near g.f_Skip) = p.f_more + fault_near g.f_Skip:=wrap_id _ (by omega) (by omega)
 unfold addP
 rw [hw]
 split
 ·exact h.up (by omega)
 split
 ·exact ⟨(h.up (by omega)).gaps,by show 0 ≤ p.f_more + fault_near g.f_Skip ∧ p.f_more + fault_near g.f_Skip ≤ B + 1000; omega⟩
 ·refine ⟨fun x hx=>?_,by show (0:Int) ≤ 0 ∧ (0:Int) ≤ B + 1000; omega⟩
  rcases List.mem_append.1 hx with hx | hx
  ·exact (h.up (show B ≤ B + 1000 by omega)).gaps x hx
  ·rw [List.mem_singleton.1 hx]
   show 0 ≤ p.f_more + fault_near g.f_Skip ∧ p.f_more + fault_near g.f_Skip ≤ B + 1000 ∧ 1 ≤ fault_near g.f_Fail ∧ fault_near g.f_Fail ≤ B + 1000
   omega
theorem Add34_eq (n:Nat) (p:S_fault_Plan) (g:S_fault_Gap) (h:p.f_l.length ≤ 32) (hn:100000 ≤ n):ref34_Add n (toPl p) g = some (toPl (addP p g)):=by
 unfold ref34_Add addP
 show (if decide ((List.length p.f_l:Int) ≥ 32) = true then _ else _) = _
 by_cases c1:32 ≤ p.f_l.length
 ·rw [if_pos (by simp; omega),if_pos c1]
 rw [if_neg (by simp; omega),if_neg c1]
 have:=gather (L:=fun k (s:S_ref34_Plan) i=>ref34_Add_l1 n (toPl p) g ⟨[],0⟩ k i s) p.f_l (fun s x=>(⟨s.f_L ++ [x],s.f_More⟩:S_ref34_Plan)) id (fun i s=>s.f_L.length = i) (by omega)
  (fun k s i h hs=>by
   show ref34_Add_l1 n (toPl p) g ⟨[],0⟩ (k + 1) (i:Int) s = _
   rw [ref34_Add_l1,show (toPl p).f_L = p.f_l from rfl,if_pos (lt_i h),if_pos (in_i h),at_i h,if_pos (cap_add (by simp only [List.length_cons,List.length_nil]; omega))])
  (fun s i h hi=>by simp [hi])
  (fun k s hi=>by
   show ref34_Add_l1 n (toPl p) g ⟨[],0⟩ (k + 1) (List.length p.f_l:Int) s = _
   rw [ref34_Add_l1]
   show (if decide ((List.length p.f_l:Int) < (List.length p.f_l:Int)) = true then _ else _) = _
   rw [nlt_n]; rfl) n 0 ⟨[],p.f_more⟩ (by omega) (by omega) rfl
 have fl:∀ (l acc:List S_fault_Gap) (m:Int),l.foldl (fun s x=>(⟨s.f_L ++ [x],s.f_More⟩:S_ref34_Plan)) ⟨acc,m⟩ = ⟨acc ++ l,m⟩:=by
  intro l
  induction l with
  | nil=>intro acc m; simp
  | cons x l ih=>intro acc m; rw [List.foldl_cons,ih]; simp
 have this:ref34_Add_l1 n (toPl p) g ⟨[],0⟩ n 0 ⟨[],p.f_more⟩ = _:=this.1
 rw [List.drop_zero,fl,List.nil_append] at this
 show (ref34_Add_l1 n (toPl p) g ⟨[],0⟩ n 0 ⟨[],p.f_more⟩).bind _ = _
 rw [this,Option.bind_some,near_eq,near_eq]
 by_cases c2:fault_near g.f_Fail = 0
 ·rw [if_pos (by simpa using c2),if_pos c2]; rfl
 ·rw [if_neg (by simpa using c2),if_neg c2]
  dsimp only [id]
  rw [if_pos (cap_add (by simp only [List.length_cons,List.length_nil]; omega))]; rfl
theorem Next34_eq (n:Nat) {B:Int} {p:S_fault_Plan} (hg:GInv B p) (hB:B ≤ 1000000000) (h:p.f_l.length ≤ 32) (hn:100000 ≤ n):ref34_Next n (toPl p) = some (toPl (nextP p).1,(nextP p).2) ∧ GInv B (nextP p).1:=by
 obtain ⟨l,m⟩:=p
 cases l with
 | nil =>
  have hm:=hg.more
  dsimp only at hm
  unfold ref34_Next nextP toPl
  dsimp only
  rw [if_pos (by rfl),wrap_id (m - 1) (by omega) (by omega)]
  by_cases h0:m > 0
  ·rw [if_pos (decide_eq_true h0),if_neg (by omega)]
   exact ⟨rfl,hg.gaps,by show 0 ≤ m - 1 ∧ m - 1 ≤ B; omega⟩
  ·rw [if_neg (by simpa using h0),if_pos (by omega),show m = 0 by omega]
   exact ⟨rfl,hg.gaps,by show (0:Int) ≤ 0 ∧ (0:Int) ≤ B; omega⟩
 | cons g l =>
  have hgg:=hg.gaps g List.mem_cons_self
  have hgl:∀ x ∈ l,0 ≤ x.f_Skip ∧ x.f_Skip ≤ B ∧ 1 ≤ x.f_Fail ∧ x.f_Fail ≤ B:=fun x hx=>hg.gaps x (List.mem_cons_of_mem _ hx)
  have hm:=hg.more
  have hlen:(g :: l).length ≤ 32:=h
  have hz:decide (0 ≤ (0:Int) ∧ (0:Int) < (List.length (g :: l):Int)) = true:=decide_eq_true (by rw [List.length_cons]; omega)
  have w1:IntKind.wrap .i64 (g.f_Skip - 1) = g.f_Skip - 1:=wrap_id _ (by omega) (by omega)
  have w2:IntKind.wrap .i64 (g.f_Fail - 1) = g.f_Fail - 1:=wrap_id _ (by omega) (by omega)
  have key:∀ (acc:List S_fault_Gap),acc.length ≤ 32 → ref34_Next_l3 n (g.f_Skip == 0) ⟨g :: l,m⟩ ⟨[],0⟩ n 1 ⟨acc,m⟩ = some ⟨acc ++ l,m⟩:=by
   intro acc hacc
   have:=gather (L:=fun k (s:S_ref34_Plan) i=>ref34_Next_l3 n (g.f_Skip == 0) ⟨g :: l,m⟩ ⟨[],0⟩ k i s) (g :: l) (fun s x=>(⟨s.f_L ++ [x],s.f_More⟩:S_ref34_Plan)) id (fun i s=>s.f_L.length ≤ i + 32) (by omega)
    (fun k s i h hs=>by
     show ref34_Next_l3 n (g.f_Skip == 0) ⟨g :: l,m⟩ ⟨[],0⟩ (k + 1) (i:Int) s = _
     rw [ref34_Next_l3,if_pos (lt_i h),if_pos (in_i h)]
     dsimp only
     rw [at_i h,if_pos (cap_add (by have h9:i < (g :: l).length:=h; simp only [List.length_singleton]; omega))])
    (fun s i h hi=>by simp; omega)
    (fun k s hi=>by
     show ref34_Next_l3 n (g.f_Skip == 0) ⟨g :: l,m⟩ ⟨[],0⟩ (k + 1) (List.length (g :: l):Int) s = _
     rw [ref34_Next_l3]
     dsimp only
     rw [nlt_n]; rfl) n 1 ⟨acc,m⟩ (by rw [List.length_cons]; omega) (by omega) (by dsimp only; omega)
   have fl:∀ (l acc:List S_fault_Gap) (m:Int),l.foldl (fun s x=>(⟨s.f_L ++ [x],s.f_More⟩:S_ref34_Plan)) ⟨acc,m⟩ = ⟨acc ++ l,m⟩:=by
    intro l
    induction l with
    | nil=>intro acc m; simp
    | cons x l ih=>intro acc m; rw [List.foldl_cons,ih]; simp
   have this:ref34_Next_l3 n (g.f_Skip == 0) ⟨g :: l,m⟩ ⟨[],0⟩ n 1 ⟨acc,m⟩ = _:=this.1
   rw [this,show List.drop 1 (g :: l) = l from rfl,fl]; rfl
  unfold ref34_Next nextP toPl
  dsimp only
  rw [if_neg (by rw [List.length_cons]; simp; omega),if_pos hz,if_pos hz,show ((g :: l)[Int.toNat 0]?.getD (S_fault_Gap.mk 0 0)) = g from rfl]
  show (((ref34_Next_j1 n (g.f_Skip == 0) (g.f_Skip == 0) ⟨g :: l,m⟩ ⟨[],0⟩ ⟨[],m⟩ ⟨IntKind.wrap .i64 (g.f_Skip - 1),g.f_Fail⟩).bind _) = _) ∧ _
  unfold ref34_Next_j1
  by_cases hs:g.f_Skip = 0
  ·rw [if_pos (by simpa using hs),if_pos hz,Option.bind_some]
   dsimp only
   show (((ref34_Next_j2 n (g.f_Skip == 0) (decide (IntKind.wrap .i64 (g.f_Fail - 1) > 0)) ⟨g :: l,m⟩ ⟨[],0⟩ ⟨[],m⟩ ⟨0,IntKind.wrap .i64 (g.f_Fail - 1)⟩).bind _) = _) ∧ _
   unfold ref34_Next_j2
   rw [if_neg (show ¬ g.f_Skip > 0 by omega),w2]
   by_cases hf:g.f_Fail - 1 > 0
   ·rw [if_pos (decide_eq_true hf),if_pos (show decide (List.length [_] * (16 + 1) ≤ limit) = true from decide_eq_true (by show 1 * 17 ≤ 140737488355328; omega)),Option.bind_some]
    dsimp only
    rw [key _ (by simp),if_neg (show ¬ g.f_Fail - 1 = 0 by omega),hs]
    refine ⟨?_,fun x hx=>?_,hm⟩
    ·rw [show decide (g.f_Fail - 1 < g.f_Fail) = true from decide_eq_true (by omega)]; rfl
    ·rcases List.mem_cons.1 hx with rfl | hx
     ·show 0 ≤ (0:Int) ∧ (0:Int) ≤ B ∧ 1 ≤ g.f_Fail - 1 ∧ g.f_Fail - 1 ≤ B
      omega
     ·exact hgl x hx
   ·rw [if_neg (by simpa using hf),Option.bind_some]
    dsimp only
    rw [key _ (by simp),if_pos (show g.f_Fail - 1 = 0 by omega),hs]
    refine ⟨?_,hgl,hm⟩
    rw [show decide (g.f_Fail - 1 < g.f_Fail) = true from decide_eq_true (by omega)]; rfl
  ·rw [if_neg (by simpa using hs),Option.bind_some]
   dsimp only
   unfold ref34_Next_j2
   rw [if_pos (show g.f_Skip > 0 by omega),w1,if_pos (decide_eq_true (show g.f_Fail > 0 by omega)),if_pos (show decide (List.length [_] * (16 + 1) ≤ limit) = true from decide_eq_true (by show 1 * 17 ≤ 140737488355328; omega)),Option.bind_some]
   dsimp only
   rw [key _ (by simp),if_neg (show ¬ g.f_Fail = 0 by omega)]
   refine ⟨?_,fun x hx=>?_,hm⟩
   ·rw [show decide (g.f_Fail < g.f_Fail) = false from decide_eq_false (by omega),show (g.f_Skip == 0) = false by simpa using hs]; rfl
   ·rcases List.mem_cons.1 hx with rfl | hx
    ·show 0 ≤ g.f_Skip - 1 ∧ g.f_Skip - 1 ≤ B ∧ 1 ≤ g.f_Fail ∧ g.f_Fail ≤ B
     omega
    ·exact hgl x hx
end Go.Proofs.YtaecmkldkljioaaGreat.M
