import Derived.Test.YtaecmkldkljioaaGreatQP35F
set_option linter.all false
namespace Go.Proofs.YtaecmkldkljioaaGreat.M
open Go Go.Proofs.YtaecmkldkljioaaGreat.RX Go.Proofs.YtaecmkldkljioaaGreat.PL
set_option maxRecDepth 100000
theorem wrap_id (x:Int) (h1:-9223372036854775808 ≤ x) (h2:x ≤ 9223372036854775807):IntKind.wrap .i64 x = x:=by
 simp only [IntKind.wrap,IntKind.bits,IntKind.signed,Bool.true_and,decide_eq_true_eq,show ((2:Int) ^ (64 - 1)) = 9223372036854775808 from rfl,show ((2:Int) ^ 64) = 18446744073709551616 from rfl]
 split <;> omega
theorem wrap_in (x:Int):-9223372036854775808 ≤ IntKind.wrap .i64 x ∧ IntKind.wrap .i64 x ≤ 9223372036854775807:=by
 simp only [IntKind.wrap,IntKind.bits,IntKind.signed,Bool.true_and,decide_eq_true_eq,show ((2:Int) ^ (64 - 1)) = 9223372036854775808 from rfl,show ((2:Int) ^ 64) = 18446744073709551616 from rfl]
 split <;> omega
theorem asked_eq (c:S_api_Check) (s:S_probe_State):(bif (bif (!(ref30_Right c)) then true else (decide (s.f_Health < 1))) then true else (decide (s.f_Health > 3))) = !(probe_asked c s):=by
 unfold probe_asked; rw [right_eq]
 rw [Bool.eq_iff_iff]
 cases probe_Right c <;> simp <;> omega
theorem due_eq (c:S_api_Check) (s:S_probe_State):ref30_Due c s = probe_Due c s:=by
 unfold ref30_Due probe_Due; rw [asked_eq]
theorem ask_eq (c:S_api_Check) (s:S_probe_State) (t:Int) (x:Bool):ref30_Ask c s t x = probe_Ask c s t x:=by
 unfold ref30_Ask probe_Ask
 simp only [lett]
 rw [asked_eq]
 by_cases h:(bif !probe_asked c s then true else decide (t < s.f_Next)) = true
 ·simp only [if_pos h]
 ·simp only [if_neg h]
  unfold probe_Ask_j1 ref30_Ask_j1
  cases x with
  | false=>simp
  | true =>
   simp only [Bool.not_true,Bool.false_eq_true,if_false]
   by_cases h1:(bif s.f_Health == 1 then decide (IntKind.wrap .i64 (s.f_Next - s.f_Began) < c.f_Start) else false) = true
   ·simp only [if_pos h1]
   ·simp only [if_neg h1]
theorem dueAgain_eq (p t c d:Int) (h:Bool):ref31_Due p t c d h = again_Due p t c d h:=by
 unfold ref31_Due again_Due
 cases h with
 | true=>rfl
 | false =>
  simp only [Bool.false_eq_true,if_false]
  by_cases h1:(bif p == 1 then true else p == 3) = true
  ·rw [if_pos h1,if_pos h1]
  ·rw [if_neg h1,if_neg h1]
   by_cases h2:p = 2
   ·subst h2; by_cases h3:c = 0 <;> simp [h3]
   ·simp [h2]
theorem waitLoop (n:Nat) (a:Int) (ha:a ≤ 9223372036854775807) (m:Nat):∀ (k:Nat),k + 1 < a → k ≤ 9 → ref31_Wait_l1 n a (m + 1) (100 * 2 ^ k) (1 + k) = ref31_Wait_l1 n a m (100 * 2 ^ (k + 1)) (1 + (k + 1:Nat)):=by
 intro k h1 h2
 rw [ref31_Wait_l1]
 have h3:∀ j:Fin 10,IntKind.wrap .i64 (100 * 2 ^ j.val * 2) = 100 * 2 ^ (j.val + 1) ∧ (100 * 2 ^ j.val:Int) < 60000:=by decide +kernel
 have h4:=h3 ⟨k,by omega⟩
 simp only at h4
 rw [if_pos (by simp [h4.2]; omega),h4.1,wrap_id _ (by omega) (by omega)]
 rfl
theorem waitLoops (n:Nat) (a:Int) (ha:a ≤ 9223372036854775807) (m:Nat):∀ (k:Nat),k < a → k ≤ 10 → ref31_Wait_l1 n a (m + k) 100 1 = ref31_Wait_l1 n a m (100 * 2 ^ k) (1 + k):=by
 intro k
 induction k generalizing m with
 | zero=>intro _ _; simp
 | succ k ih =>
  intro h1 h2
  rw [show m + (k + 1) = (m + 1) + k by omega,ih (m + 1) (by omega) (by omega),waitLoop n a ha m k (by omega) (by omega)]
theorem wait_eq (m:Nat) (a:Int) (h1:-9223372036854775808 ≤ a) (h2:a ≤ 9223372036854775807):∃ v,again_Wait (m + 11) a = some v ∧ ref31_Wait (m + 11) a = some v:=by
 by_cases h0:a < 1
 ·unfold again_Wait ref31_Wait; simp [h0]
 have hw:=wrap_id (a - 1) (by omega) (by omega)
 by_cases h3:a ≤ 10
 ·
  obtain ⟨k,rfl⟩:∃ k:Nat,a = k + 1:=⟨(a - 1).toNat,by omega⟩
  have hk:k ≤ 9:=by omega
  have h5:((k:Int) + 1 - 1) = k:=by omega
  have h6:∀ j:Fin 10,IntKind.wrap .i64 (IntKind.wrap .u64 (100 * 2 ^ (min j.val (IntKind.bits .u64)))) = 100 * 2 ^ j.val ∧ ¬ (100 * 2 ^ j.val:Int) > 60000 ∧ ¬ (60000:Int) < (100 * 2 ^ j.val):=by decide +kernel
  have h7:=h6 ⟨k,by omega⟩
  simp only at h7
  refine ⟨100 * 2 ^ k,?_,?_⟩
  ·unfold again_Wait
   rw [h5] at hw
   have h8:¬ (20:Int) < k:=by omega
   have h9:(0:Int) ≤ k:=by omega
   simp only [h0,decide_false,Bool.false_eq_true,if_false,hw,h5,h8,h9,decide_true,if_true,Int.toNat_natCast,h7.1,lett,h7.2.2]
  ·have hl:ref31_Wait_l1 (m + 11) ((k:Int) + 1) (m + 11) 100 1 = some (100 * 2 ^ k):=by
    have:=waitLoops (m + 11) ((k:Int) + 1) h2 (m + 11 - k) k (by omega) (by omega)
    rw [show m + 11 - k + k = m + 11 by omega] at this
    rw [this,show m + 11 - k = (m + 10 - k) + 1 by omega,ref31_Wait_l1,if_neg (by simp; omega)]
   unfold ref31_Wait
   simp only [h0,decide_false,Bool.false_eq_true,if_false,hl,Option.bind_some,h7.2.1]
 ·refine ⟨60000,?_,?_⟩
  ·have h6:∀ j:Fin 21,10 ≤ j.val → 60000 < IntKind.wrap .i64 (IntKind.wrap .u64 (100 * 2 ^ (min j.val (IntKind.bits .u64)))):=by decide +kernel
   have h7:∃ j:Fin 21,10 ≤ j.val ∧ (if (20:Int) < a - 1 then 20 else a - 1) = j.val:=by
    by_cases h8:(20:Int) < a - 1
    ·exact ⟨⟨20,by omega⟩,by simp,by simp [h8]⟩
    ·exact ⟨⟨(a - 1).toNat,by omega⟩,by simp; omega,by simp [h8]; omega⟩
   obtain ⟨j,h8,h9⟩:=h7
   have h10:=h6 j h8
   have h11:(0:Int) ≤ j.val:=by omega
   unfold again_Wait
   simp only [h0,decide_false,Bool.false_eq_true,if_false,hw,h9,h11,decide_true,if_true,Int.toNat_natCast,lett,h10]
  ·have hl:ref31_Wait_l1 (m + 11) a (m + 11) 100 1 = some (100 * 2 ^ 10):=by
    have:=waitLoops (m + 11) a h2 (m + 1) 10 (by omega) (by omega)
    rw [show m + 1 + 10 = m + 11 by omega] at this
    rw [this,ref31_Wait_l1,if_neg (by simp)]
   unfold ref31_Wait
   simp only [h0,decide_false,Bool.false_eq_true,if_false,hl,Option.bind_some]
   decide
theorem next_eq (b:S_life_Box):ref32_Next (toR b) = life_Next b:=by
 unfold ref32_Next life_Next toR; simp only [due_eq]
theorem tick_eq (b:S_life_Box) (t:Int):ref32_Tick (toR b) t = (toR (life_Tick b t).1,(life_Tick b t).2):=by
 unfold ref32_Tick life_Tick life_run
 rw [next_eq]
 simp only [lett,begin_eq,ask_eq]
 by_cases h:(bif life_Next b == -1 then true else decide (life_Next b > t)) = true
 ·simp only [if_pos h]
 ·simp only [if_neg h]
  by_cases h2:(b.f_State == 2) = true
  ·simp only [toR,if_pos h2]; exact if_pos h2
  ·simp only [toR,if_neg h2]; exact if_neg h2
theorem exit_eq (m:Nat) (b:S_life_Box) (t c:Int):∃ r,life_Exit (m + 11) b t c = some r ∧ ref32_Exit (m + 11) (toR b) t c = some (toR r.1,r.2) ∧ r.1.f_Spec = b.f_Spec:=by
 unfold life_Exit ref32_Exit life_Exit_j1 ref32_Exit_j1
 simp only [lett,dueAgain_eq,toR]
 by_cases h:b.f_State = 2
 ·simp only [h,bne_self_eq_false,Bool.false_eq_true,if_false]
  by_cases h2:again_Due b.f_Spec.f_Restart b.f_Spec.f_Tries c b.f_Done false = true
  ·simp only [if_pos h2]
   have hw:=wrap_in (b.f_Done + 1)
   obtain ⟨v,h3,h4⟩:=wait_eq m (IntKind.wrap .i64 (b.f_Done + 1)) hw.1 hw.2
   rw [h3,h4]
   exact ⟨_,rfl,rfl,rfl⟩
  ·simp only [if_neg h2]
   exact ⟨_,rfl,rfl,rfl⟩
 ·simp only [bne_iff_ne,ne_eq,h,not_false_eq_true,if_true]
  exact ⟨_,rfl,rfl,rfl⟩
theorem exit_id (n:Nat) (b:S_life_Box) (t c:Int) (r:S_life_Box × Int) (h:life_Exit n b t c = some r):r.1.f_Id = b.f_Id ∧ r.1.f_Spec = b.f_Spec:=by
 unfold life_Exit life_Exit_j1 lett at h
 split at h
 ·rw [Option.some.injEq] at h; subst h; exact ⟨rfl,rfl⟩
 ·dsimp only at h
  split at h
  ·cases hw:again_Wait n (IntKind.wrap .i64 (b.f_Done + 1)) with
   | none=>rw [hw] at h; cases h
   | some v=>rw [hw] at h; simp only [Option.bind_some,Option.some.injEq] at h; subst h; exact ⟨rfl,rfl⟩
  ·simp only [Option.bind_some,Option.some.injEq] at h; subst h; exact ⟨rfl,rfl⟩
theorem tick_id (b:S_life_Box) (t:Int):(life_Tick b t).1.f_Id = b.f_Id ∧ (life_Tick b t).1.f_Spec = b.f_Spec:=by
 unfold life_Tick lett
 split
 ·exact ⟨rfl,rfl⟩
 ·split <;> exact ⟨rfl,rfl⟩
def stepF (v:Int) (s:Option S_life_Box) (b:S_life_Box):Option S_life_Box :=
 if (bif (bif (decide ((life_Next b) ≥ 0)) then (decide ((life_Next b) ≤ v)) else false) then (match s with | none=>true | some f=>decide (life_Next b < life_Next f)) else false) = true then some b else s
def firstP (v:Int) (bs:List S_life_Box):Option S_life_Box:=bs.foldl (stepF v) none
theorem stepF_or (v:Int) (s:Option S_life_Box) (u:S_life_Box):(stepF v s u = some u ∧ 0 ≤ life_Next u ∧ life_Next u ≤ v) ∨ stepF v s u = s:=by
 unfold stepF
 generalize (match s with | none=>true | some f=>decide (life_Next u < life_Next f)) = m
 split
 ·rename_i hc
  simp only [Bool.cond_false_right,Bool.and_eq_true,decide_eq_true_eq] at hc
  exact .inl ⟨rfl,hc.1.1,hc.1.2⟩
 ·exact .inr rfl
theorem firstP_mem {v:Int}:∀ (bs:List S_life_Box) (s:Option S_life_Box) (b:S_life_Box),bs.foldl (stepF v) s = some b → s = some b ∨ (b ∈ bs ∧ 0 ≤ life_Next b ∧ life_Next b ≤ v)
 | [],s,b,h=>.inl h
 | u :: r,s,b,h=>by
  rw [List.foldl_cons] at h
  rcases firstP_mem r _ b h with h1 | ⟨h1,h2⟩
  ·rcases stepF_or v s u with ⟨e,h2,h3⟩ | e
   ·rw [e] at h1
    cases h1
    exact .inr ⟨List.mem_cons_self,h2,h3⟩
   ·exact .inl (e ▸ h1)
  ·exact .inr ⟨List.mem_cons_of_mem _ h1,h2⟩
theorem first_sound {v:Int} {bs:List S_life_Box} {b:S_life_Box} (h:firstP v bs = some b):b ∈ bs ∧ 0 ≤ life_Next b ∧ life_Next b ≤ v:=by
 rcases firstP_mem bs none b h with h | h
 ·cases h
 ·exact h
def evP (b:S_life_Box) (v:Int):List S_host_Event :=
 if (life_Tick b v).2 = 2 then [⟨life_Next b,2,b.f_Id,0⟩] else if ((seenB (life_Tick b v).1).f_Health != (seenB b).f_Health) = true then [⟨life_Next b,3,b.f_Id,(seenB (life_Tick b v).1).f_Health⟩] else []
theorem evP_len (b:S_life_Box) (v:Int):(evP b v).length ≤ 1:=by
 unfold evP
 repeat' split
 all_goals simp
def PS.setB (p:PS) (b:S_life_Box):PS:=⟨repl kI p.bs b,p.ns,p.vs,p.last⟩
def tickL:Nat → Int → List S_host_Event → PS → Option (List S_host_Event × PS)
 | 0,_,_,_=>none
 | k + 1,v,acc,p=>match firstP v p.bs with
  | none=>some (acc,p)
  | some b=>tickL k v (acc ++ evP b v) (p.setB (life_Tick b v).1)
theorem tick_code {b:S_life_Box} {v:Int} (h0:0 ≤ life_Next b) (h1:life_Next b ≤ v):(life_Tick b v).2 = 1 ∨ (life_Tick b v).2 = 2:=by
 unfold life_Tick lett
 rw [if_neg (by simp; omega)]
 split
 ·exact .inl rfl
 ·exact .inr rfl
theorem Inv.setB {k:Nat} {p:PS} (h:Inv k p) {b v:S_life_Box} (hb:b ∈ p.bs) (h1:v.f_Id = b.f_Id) (h2:v.f_Spec = b.f_Spec):Inv k (p.setB v):=h.set hb h1 h2
theorem find_in {k:Nat} {p:PS} (h:Inv k p) {b:S_life_Box} (hb:b ∈ p.bs):p.bs.find? (qI b.f_Id) = some b:=find_key kI h.idnod hb
theorem Box_eq (n:Nat) (id:Int) {k:Nat} {p:PS} (h:Inv k p) :
  store_Store_Box__o0 n id p.toS = some ((p.bs.find? (qI id)).getD Z_life_Box,(p.bs.find? (qI id)).isSome,p.toS):=by
 unfold store_Store_Box__o0
 have e:mlook p.toS.f_boxes (.inr id) = p.bs.find? (qI id):=look_toM kI _ p.bs
 rw [e]
 cases hf:p.bs.find? (qI id) with
 | none =>
  rw [clone_eq n _ (by simp),Option.bind_some,clone_eq n _ (by simp),Option.bind_some]
 | some b =>
  have hb:=h.few b (List.mem_of_find?_eq_some hf)
  rw [clone_eq n _ (by show b.f_Spec.f_Nets.length ≤ _; omega),Option.bind_some,clone_eq n _ (by show b.f_Spec.f_Vols.length ≤ _; omega),Option.bind_some]
theorem Put_eq (n:Nat) (v:S_life_Box) (p:PS) (h1:v.f_Spec.f_Nets.length ≤ 1000) (h2:v.f_Spec.f_Vols.length ≤ 1000) :
  store_Store_Put__o0 n v p.toS = some (if (p.bs.find? (qI v.f_Id)).isSome = true then (true,(p.setB v).toS) else (false,p.toS)):=by
 unfold store_Store_Put__o0
 have e:mlook p.toS.f_boxes (.inr v.f_Id) = p.bs.find? (qI v.f_Id):=look_toM kI _ p.bs
 rw [e]
 cases hf:p.bs.find? (qI v.f_Id) with
 | none=>rw [if_pos (by rfl),if_neg (by simp)]
 | some b =>
  rw [if_neg (by simp),if_pos (by rfl),clone_eq n _ (by omega),Option.bind_some,clone_eq n _ (by omega),Option.bind_some]
  show some (true,S_store_Store.mk (mput (toM kI p.bs) (kI v) v) (toM kN p.ns) (toM kN p.vs) p.last) = _
  rw [put_old kI v p.bs (by
   show (p.bs.find? (qI v.f_Id)).isSome = true
   rw [hf]; rfl)]; rfl
theorem Put_set (n:Nat) {k:Nat} {p:PS} (h:Inv k p) {b v:S_life_Box} (hb:b ∈ p.bs) (h1:v.f_Id = b.f_Id) (h2:v.f_Spec = b.f_Spec):store_Store_Put__o0 n v p.toS = some (true,(p.setB v).toS):=by
 have hf:=h.few b hb
 rw [Put_eq n v p (by rw [h2]; omega) (by rw [h2]; omega),if_pos (by rw [h1,find_in h hb]; rfl)]
theorem next35_eq (n:Nat) (v:Int) {k:Nat} {h:PH} (hi:HInv k h) (hk:k ≤ 1000) (hn:100000 ≤ n):host_Host_next__o0 n v h.toH = some ((firstP v h.st.bs).getD Z_life_Box,(firstP v h.st.bs).isSome,h.toH):=by
 unfold host_Host_next__o0
 show (store_Store_Boxes__o0 n h.st.toS).bind _ = _
 rw [Boxes_eq n hi.st hk hn,Option.bind_some]
 dsimp only
 have h64:=hi.st.boxes
 have hlen:(h.st.bs.map seenB).length = h.st.bs.length:=by simp
 have:=gather (L:=fun k (s:Option S_life_Box) i=>host_Host_next__o0_l1 n v (h.st.bs.map seenB) (List.length (h.st.bs.map seenB):Int) Z_life_Box k s.isSome i (s.getD Z_life_Box) h.toH) h.st.bs (stepF v) (fun s=>(s.isSome,s.getD Z_life_Box,h.toH)) (fun _ _=>True) (by omega)
  (fun k s i hi' _=>by
   have hi2:i < (h.st.bs.map seenB).length:=by omega
   have hget:((h.st.bs.map seenB)[Int.toNat (i:Int)]?.getD Z_api_Container) = seenB h.st.bs[i]:=by rw [at_i hi2]; simp
   show host_Host_next__o0_l1 n v (h.st.bs.map seenB) (List.length (h.st.bs.map seenB):Int) Z_life_Box (k + 1) s.isSome (i:Int) (s.getD Z_life_Box) h.toH = _
   rw [host_Host_next__o0_l1,if_pos (lt_i hi2),host_Host_next__o0_j2,if_pos (in_i hi2),hget]
   show ((Option.bind (store_Store_Box__o0 n h.st.bs[i].f_Id h.st.toS) _).bind _) = _
   rw [Box_eq n _ hi.st,find_in hi.st (List.getElem_mem hi'),Option.bind_some]
   dsimp only
   simp only [lett,Option.getD_some]
   unfold stepF
   cases s with
   | none =>
    simp only [Option.isSome_none,Bool.not_false,cond_true]
    by_cases hc:(bif (bif decide (life_Next h.st.bs[i] ≥ 0) then decide (life_Next h.st.bs[i] ≤ v) else false) then true else false) = true
    ·rw [if_pos hc,if_pos hc]; rfl
    ·rw [if_neg hc,if_neg hc]; rfl
   | some f =>
    simp only [Option.isSome_some,Bool.not_true,cond_false,Option.getD_some]
    by_cases hc:(bif (bif decide (life_Next h.st.bs[i] ≥ 0) then decide (life_Next h.st.bs[i] ≤ v) else false) then decide (life_Next h.st.bs[i] < life_Next f) else false) = true
    ·rw [if_pos hc,if_pos hc]; rfl
    ·rw [if_neg hc,if_neg hc]; rfl)
  (fun _ _ _ _=>trivial)
  (fun k s _=>by
   show host_Host_next__o0_l1 n v (h.st.bs.map seenB) (List.length (h.st.bs.map seenB):Int) Z_life_Box (k + 1) s.isSome (List.length h.st.bs:Int) (s.getD Z_life_Box) h.toH = _
   rw [host_Host_next__o0_l1,hlen,nlt_n]; rfl) n 0 none (by omega) (by omega) trivial
 have this:host_Host_next__o0_l1 n v (h.st.bs.map seenB) (List.length (h.st.bs.map seenB):Int) Z_life_Box n false 0 Z_life_Box h.toH = _:=this.1
 show (host_Host_next__o0_l1 n v (h.st.bs.map seenB) (List.length (h.st.bs.map seenB):Int) Z_life_Box n false 0 Z_life_Box h.toH).bind _ = _
 rw [this]; rfl
theorem HInv.setB {k:Nat} {h:PH} (hi:HInv k h) {b v:S_life_Box} (hb:b ∈ h.st.bs) (h1:v.f_Id = b.f_Id) (h2:v.f_Spec = b.f_Spec):HInv k ⟨h.st.setB v,h.plan,h.now⟩:=⟨hi.st.setB hb h1 h2,hi.plan⟩
theorem lim33 {a:Nat} (h:a ≤ 1000000000000):decide (a * (32 + 1) ≤ limit) = true:=decide_eq_true (by show a * 33 ≤ 140737488355328; omega)
theorem tickL_eq (n:Nat) (v:Int) (k0:Nat) (hk:k0 ≤ 1000) (hn:100000 ≤ n):∀ (k:Nat) (acc:List S_host_Event) (h:PH),HInv k0 h → acc.length + k ≤ 100000000000 →
  host_Host_Tick__o0_l1 n v k acc h.toH = (tickL k v acc h.st).map fun r=>(r.1,(⟨r.2,h.plan,h.now⟩:PH).toH)
 | 0,_,_,_,_=>rfl
 | k + 1,acc,h,hi,hl=>by
  rw [host_Host_Tick__o0_l1,next35_eq n v hi hk hn,Option.bind_some,tickL]
  cases hf:firstP v h.st.bs with
  | none=>rfl
  | some b =>
   obtain ⟨hb,hb0,hb1⟩:=first_sound hf
   have hid:=tick_id b v
   dsimp only
   rw [if_neg (by simp)]
   simp only [lett,Option.getD_some,seen_eq]
   show (Option.bind (store_Store_Put__o0 n (life_Tick b v).1 h.st.toS) _) = _
   rw [Put_set n hi.st hb hid.1 hid.2,Option.bind_some]
   dsimp only
   unfold host_Host_Tick__o0_j2
   have hev:=evP_len b v
   have ih:=tickL_eq n v k0 hk hn k (acc ++ evP b v) ⟨h.st.setB (life_Tick b v).1,h.plan,h.now⟩ (hi.setB hb hid.1 hid.2) (by rw [List.length_append]; omega)
   rcases tick_code hb0 hb1 with hc | hc
   ·have he:evP b v = if ((seenB (life_Tick b v).1).f_Health != (seenB b).f_Health) = true then [⟨life_Next b,3,b.f_Id,(seenB (life_Tick b v).1).f_Health⟩] else []:=by unfold evP; rw [if_neg (by omega)]
    rw [if_neg (by rw [hc]; decide),Option.bind_some,hc]
    simp only [beq_self_eq_true,cond_true]
    by_cases hh:((seenB (life_Tick b v).1).f_Health != (seenB b).f_Health) = true
    ·rw [if_pos hh] at he
     rw [he] at ih ⊢
     rw [if_pos hh,if_pos (lim33 (by simp only [List.length_cons,List.length_nil]; omega))]
     exact ih
    ·rw [if_neg hh] at he
     rw [he,List.append_nil] at ih ⊢
     rw [if_neg hh]
     exact ih
   ·have he:evP b v = [⟨life_Next b,2,b.f_Id,0⟩]:=by unfold evP; rw [if_pos hc]
    rw [he] at ih ⊢
    rw [if_pos (by rw [hc]; decide),if_pos (lim33 (by simp only [List.length_cons,List.length_nil]; omega)),Option.bind_some,hc]
    rw [if_neg (by simp)]
    exact ih
theorem tickL_o_eq (n:Nat) (v:Int) (k0:Nat) (hk:k0 ≤ 1000) (hn:100000 ≤ n):∀ (k:Nat) (acc:List S_host_Event) (h:PH),HInv k0 h → acc.length + k ≤ 100000000000 →
  host_Host_Tick_o__o0_l1 n v k acc h.toH = (tickL k v acc h.st).map fun r=>(r.1,(⟨r.2,h.plan,h.now⟩:PH).toH)
 | 0,_,_,_,_=>rfl
 | k + 1,acc,h,hi,hl=>by
  rw [host_Host_Tick_o__o0_l1,next35_eq n v hi hk hn,Option.bind_some,tickL]
  cases hf:firstP v h.st.bs with
  | none=>rfl
  | some b =>
   obtain ⟨hb,hb0,hb1⟩:=first_sound hf
   have hid:=tick_id b v
   dsimp only
   rw [if_neg (by simp)]
   simp only [lett,Option.getD_some,seen_eq]
   show (Option.bind (store_Store_Put__o0 n (life_Tick b v).1 h.st.toS) _) = _
   rw [Put_set n hi.st hb hid.1 hid.2,Option.bind_some]
   dsimp only
   unfold host_Host_Tick_o__o0_j2
   have hev:=evP_len b v
   have ih:=tickL_o_eq n v k0 hk hn k (acc ++ evP b v) ⟨h.st.setB (life_Tick b v).1,h.plan,h.now⟩ (hi.setB hb hid.1 hid.2) (by rw [List.length_append]; omega)
   rcases tick_code hb0 hb1 with hc | hc
   ·have he:evP b v = if ((seenB (life_Tick b v).1).f_Health != (seenB b).f_Health) = true then [⟨life_Next b,3,b.f_Id,(seenB (life_Tick b v).1).f_Health⟩] else []:=by unfold evP; rw [if_neg (by omega)]
    rw [if_neg (by rw [hc]; decide),Option.bind_some,hc]
    simp only [beq_self_eq_true,cond_true]
    by_cases hh:((seenB (life_Tick b v).1).f_Health != (seenB b).f_Health) = true
    ·rw [if_pos hh] at he
     rw [he] at ih ⊢
     rw [if_pos hh,if_pos (lim33 (by simp only [List.length_cons,List.length_nil]; omega))]
     exact ih
    ·rw [if_neg hh] at he
     rw [he,List.append_nil] at ih ⊢
     rw [if_neg hh]
     exact ih
   ·have he:evP b v = [⟨life_Next b,2,b.f_Id,0⟩]:=by unfold evP; rw [if_pos hc]
    rw [he] at ih ⊢
    rw [if_pos (by rw [hc]; decide),if_pos (lim33 (by simp only [List.length_cons,List.length_nil]; omega)),Option.bind_some,hc]
    rw [if_neg (by simp)]
    exact ih
end Go.Proofs.YtaecmkldkljioaaGreat.M
