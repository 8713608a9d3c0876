import Derived.Test.YtaecmkldkljioaaGreatQP35J
set_option linter.all false
namespace Go.Proofs.YtaecmkldkljioaaGreat.M
open Go Go.Proofs.YtaecmkldkljioaaGreat.RX Go.Proofs.YtaecmkldkljioaaGreat.PL
set_option maxRecDepth 100000
theorem awake35':law35_awake 1000000000 = some true:=by kernel_rfl
theorem few_j2 (n:Nat) (v0:List S_law35_Deed) (v1:Int) (v5:List S_api_Call) (v6:Int) (v7:Bool) (i:Nat) (hi:i < v0.length) (hl:v5.length ≤ 1000) :
  ∃ o,law35_Few_j2 n v0 v1 v5 v6 v7 (i:Int) = some o ∧ (∀ s,o = .inl s → s.1 = v5 ++ [v0[i].f_Call]) ∧ (∀ b,o = .inr b → b = false):=by
 have hg:=in_i hi
 unfold law35_Few_j2
 rw [if_pos hg,if_pos (fitsM (by simp only [List.length_cons,List.length_nil]; omega)),if_pos hg,if_pos (by decide),if_pos (by rw [hg]; simp)]
 simp only [lett]
 rw [at_i hi]
 have ej:∀ x:Bool,∃ o2,law35_Few_j3 n v0 v1 (v5 ++ [v0[i].f_Call]) v6 v7 (i:Int) x = some o2:=by
  intro x
  unfold law35_Few_j3
  rw [hg,if_pos rfl,if_pos rfl]
  repeat' split
  all_goals exact ⟨_,rfl⟩
 obtain ⟨o2,e2⟩:=ej (bif Int.tmod v0[i].f_Kind 10 == 5 then decide (v0[i].f_N > 0) else false)
 rw [e2,Option.bind_some,if_pos (by rw [hg]; simp),if_pos (by rw [hg]; simp),if_pos (by rw [hg]; simp)]
 by_cases c1:decide (o2 > 20000) = true
 ·rw [if_pos c1]
  exact ⟨_,rfl,fun s h=>(by cases h),fun b h=>(by cases h; rfl)⟩
 rw [if_neg c1,if_pos hg,if_pos (by decide),if_pos (by rw [hg]; simp),if_pos (by rw [hg]; simp)]
 by_cases c2:(bif Int.tmod v0[i].f_Kind 10 == 9 then (bif decide (v0[i].f_N > 30) then true else decide (v0[i].f_M > 30)) else false) = true
 ·rw [if_pos c2]
  exact ⟨_,rfl,fun s h=>(by cases h),fun b h=>(by cases h; rfl)⟩
 ·rw [if_neg c2]
  exact ⟨_,rfl,fun s h=>(by cases h; rfl),fun b h=>(by cases h)⟩
theorem few_l1 (n:Nat) (v0:List S_law35_Deed) (v1:Int) (hl:v0.length ≤ 900):∀ (k i:Nat) (v5:List S_api_Call) (v6:Int) (v7:Bool),i ≤ v0.length → v0.length - i < k → v5 = (v0.take i).map (·.f_Call) →
  ∃ o,law35_Few_l1 n v0 v1 k v5 v6 v7 (i:Int) = some o ∧ (∀ s,o = .inl s → s.1 = v0.map (·.f_Call)) ∧ (∀ b,o = .inr b → b = false)
 | 0,_,_,_,_,_,h,_=>by omega
 | k + 1,i,v5,v6,v7,h1,h2,h3=>by
  rw [law35_Few_l1]
  by_cases hi:i < v0.length
  ·obtain ⟨o,e1,e2,e3⟩:=few_j2 n v0 v1 v5 v6 v7 i hi (by rw [h3]; simp; omega)
   rw [if_pos (lt_i hi),e1,Option.bind_some]
   cases o with
   | inr b=>exact ⟨.inr b,rfl,fun s h=>(by cases h),fun b' h=>(by cases h; exact e3 b rfl)⟩
   | inl s =>
    rw [Sum.elim_inl,wrap_s i (by omega)]
    refine few_l1 n v0 v1 hl k (i + 1) _ _ _ (by omega) (by omega) ?_
    rw [e2 s rfl,h3,List.take_succ_eq_append_getElem hi,List.map_append]; rfl
  ·have:i = v0.length:=by omega
   subst this
   rw [nlt_n]
   refine ⟨_,rfl,fun s h=>?_,fun b h=>(by cases h)⟩
   cases h
   rw [h3,List.take_length]
theorem deeds_few (n:Nat) (a1:List S_law35_Deed) (m:Nat) (hm:m ≤ 900) (hn:100000 ≤ n):∃ b,law35_Few n a1 (m:Int) = some b ∧ (b = true → a1.length ≤ m ∧ ∀ d ∈ a1,fewC d.f_Call = false):=by
 unfold law35_Few
 by_cases h:(a1.length:Int) > (m:Int)
 ·exact ⟨false,by rw [if_pos (decide_eq_true h)],fun h=>by cases h⟩
 ·rw [if_neg (by simpa using h)]
  obtain ⟨o,e1,e2,e3⟩:=few_l1 n a1 (m:Int) (by omega) n 0 [] 0 false (by omega) (by omega) rfl
  have e1:law35_Few_l1 n a1 (m:Int) n [] 0 false 0 = _:=e1
  rw [e1,Option.bind_some]
  cases o with
  | inr b=>exact ⟨b,rfl,fun h=>by rw [e3 b rfl] at h; cases h⟩
  | inl s =>
   rw [Sum.elim_inl]
   simp only [lett]
   by_cases hx:((bif (!s.2.2) then true else decide (s.2.1 ≤ 2000)) == true) = true
   ·rw [if_pos hx,e2 s rfl,few33 n _ m (by omega) hn,Option.bind_some]
    refine ⟨_,rfl,fun hb=>?_⟩
    rw [beq_iff_eq] at hx
    rw [hx] at hb
    simp only [cond_true,Bool.cond_false_right,Bool.and_eq_true,decide_eq_true_eq,Bool.not_eq_true',List.length_map] at hb
    refine ⟨hb.1.1,fun d hd=>?_⟩
    have:=(List.any_eq_false.1 hb.1.2) d.f_Call (List.mem_map_of_mem hd)
    simpa using this
   ·rw [if_neg hx,Option.bind_some]
    have:(bif (!s.2.2) then true else decide (s.2.1 ≤ 2000)) = false:=by simpa using hx
    rw [this]
    exact ⟨_,rfl,fun h=>by cases h⟩
theorem Of34_eq (n:Nat) (l:List S_fault_Gap) (h:l.length ≤ 100) (hn:100000 ≤ n):ref34_Of n l = some (toPl (l.foldl addP ⟨[],0⟩)) ∧ GInv 100000 (l.foldl addP ⟨[],0⟩):=by
 unfold ref34_Of
 have:=gather (L:=fun k (s:S_fault_Plan) i=>ref34_Of_l1 n l ⟨[],0⟩ k i (toPl s)) l addP toPl (fun i s=>s.f_l.length ≤ 32 ∧ GInv (1000 * i) s) (by omega)
  (fun k s i h hi=>by
   show ref34_Of_l1 n l ⟨[],0⟩ (k + 1) (i:Int) (toPl s) = _
   rw [ref34_Of_l1,if_pos (lt_i h),if_pos (in_i h),at_i h,Add34_eq n _ _ hi.1 hn,Option.bind_some])
  (fun s i h hi=>⟨addP_len _ hi.1,(hi.2.add (by omega) _).up (by omega)⟩)
  (fun k s hi=>by
   show ref34_Of_l1 n l ⟨[],0⟩ (k + 1) (List.length l:Int) (toPl s) = _
   rw [ref34_Of_l1,nlt_n]; rfl) n 0 ⟨[],0⟩ (by omega) (by omega) ⟨by simp,⟨fun g hg=>(by cases hg),by show (0:Int) ≤ 0 ∧ (0:Int) ≤ 1000 * ((0:Nat):Int); omega⟩⟩
 rw [List.drop_zero] at this
 have e:ref34_Of_l1 n l ⟨[],0⟩ n 0 ⟨[],0⟩ = _:=this.1
 rw [e]
 exact ⟨rfl,this.2.2.up (by omega)⟩
abbrev h0P (a0:List S_fault_Gap):PH:=⟨⟨[],[],[],0⟩,a0.foldl addP ⟨[],0⟩,0⟩
theorem q0 (n:Nat) (a0:List S_fault_Gap) (h:a0.length ≤ 40) (hn:100000 ≤ n):QInv 0 (h0P a0):=⟨(New_eq n a0 (by omega) hn).2,(Of34_eq n a0 (by omega) hn).2,by show (0:Int) ≤ 0; omega,by show (0:Int) ≤ 10000 * ((0:Nat):Int); omega⟩
end Go.Proofs.YtaecmkldkljioaaGreat.M
