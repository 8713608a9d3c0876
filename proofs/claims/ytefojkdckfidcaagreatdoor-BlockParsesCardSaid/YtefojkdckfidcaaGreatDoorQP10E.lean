import Derived.Test.YtefojkdckfidcaaGreatDoorQP10D
set_option linter.all false
namespace Go.Proofs.YtefojkdckfidcaaGreatDoor.M
open Go Go.Proofs.YtefojkdckfidcaaGreatDoor.RX Go.Proofs.YtefojkdckfidcaaGreatDoor.PL
set_option maxRecDepth 100000
theorem rRow (n:Nat) (s:BS):ref10_Row n s = some (rowQ s):=by
 unfold ref10_Row
 match s with
 | []=>rfl
 | [c] =>
  have h1:decide ((List.length [c]:Int) > 0) = true:=rfl
  have h2:((List.length [c]:Int) == 1) = true:=rfl
  have z0:decide (0 ≤ (0:Int) ∧ (0:Int) < (List.length [c]:Int)) = true:=rfl
  have z1:([c][Int.toNat 0]?.getD 0) = c:=rfl
  rw [h1,h2,z0,z1,b45,if_pos (by rfl),if_pos (by rfl)]
  simp only [lett,cond_true]
  rw [byte_eq]
  show some (bif (c == 45) then true else false) = some (c == 45)
  cases (c == 45) <;> rfl
 | c :: d :: r =>
  have hl:((List.length (c :: d :: r):Nat):Int) = (r.length:Int) + 2:=by simp only [List.length_cons]; omega
  have h1:decide ((List.length (c :: d :: r):Int) > 0) = true:=decide_eq_true (by rw [hl]; omega)
  have h2:((List.length (c :: d :: r):Int) == 1) = false:=by rw [hl]; simp; omega
  have z0:decide (0 ≤ (0:Int) ∧ (0:Int) < (List.length (c :: d :: r):Int)) = true:=decide_eq_true (by rw [hl]; omega)
  have z2:decide (0 ≤ (1:Int) ∧ (1:Int) < (List.length (c :: d :: r):Int)) = true:=decide_eq_true (by rw [hl]; omega)
  have z1:((c :: d :: r)[Int.toNat 0]?.getD 0) = c:=rfl
  have z3:((c :: d :: r)[Int.toNat 1]?.getD 0) = d:=rfl
  rw [h1,h2,z0,z1,z2,z3,b45,b32,Bool.or_true,if_pos rfl,Bool.or_true,if_pos rfl]
  simp only [lett,cond_true,cond_false]
  rw [byte_eq,byte_eq]
  show some (bif (c == 45) then (d == 32) else false) = some (c == 45 && d == 32)
  cases (c == 45) <;> rfl
theorem rmarked (n:Nat) (s:BS) (i:Nat) (hs:s.length ≤ 100000) (hi:i ≤ s.length):ref10_marked n s (i:Int) = some (mkQ s i):=by
 have h:=bmark n s i hs hi
 unfold block_mark at h
 unfold ref10_marked
 exact h
theorem rbehind_l (n:Nat) (s:BS) (hs:s.length ≤ 100000):∀ (k i:Nat),i ≤ s.length → s.length - i < k → ref10_behind_l1 n s k (i:Int) = some ((i + ind (s.drop i):Nat):Int)
 | 0,i,_,h=>by omega
 | k + 1,i,h1,h2=>by
  rw [ref10_behind_l1]
  by_cases h:i < s.length
  ·rw [if_pos (by rw [in_i h,Bool.or_true]),lt_i h,cond_true,at_i h,b32,drop_at h,ind_cons]
   by_cases hc:s[i] = 32
   ·rw [if_pos (decide_eq_true hc),if_pos hc,wrap_s i (by omega),rbehind_l n s hs k (i + 1) (by omega) (by omega)]
    rw [show i + 1 + ind (List.drop (i + 1) s) = i + (ind (List.drop (i + 1) s) + 1) by omega]
   ·rw [if_neg (by simpa using hc),if_neg hc]; rfl
  ·rw [if_pos (by rw [nlt_i (Nat.not_lt.1 h)]; rfl),nlt_i (Nat.not_lt.1 h),cond_false,List.drop_eq_nil_of_le (by omega)]; rfl
theorem rbehind (n:Nat) (s:BS) (i:Nat) (hs:s.length ≤ 10000) (hi:i < s.length) (hn:200000 ≤ n):ref10_behind n s (i:Int) = some ((s.drop (i + 1)).dropWhile (· == 32)):=by
 unfold ref10_behind
 have hil:=ind_le (s.drop (i + 1))
 rw [List.length_drop] at hil
 rw [wrap_s i (by omega),rbehind_l n s (by omega) n (i + 1) (by omega) (by omega)]
 simp only [Option.bind_some]
 rw [if_pos (le_i (by omega)),tn,← List.drop_drop,drop_ind]
theorem rEntry_l1 (n:Nat) (s:BS) (hs:s.length ≤ 10000) (hn:300000 ≤ n):∀ (k i:Nat),i ≤ s.length → s.length - i < k → ref10_Entry_l1 n s k (i:Int) = some (if i + mk9 (s.drop i) = s.length then .inl () else
   if (!plainB (s.take (i + mk9 (s.drop i))) || s.take (i + mk9 (s.drop i)) == [60,60]) = true then .inr ([],[],-1) else .inr (s.take (i + mk9 (s.drop i)),(s.drop (i + mk9 (s.drop i) + 1)).dropWhile (· == 32),1))
 | 0,i,_,h=>by omega
 | k + 1,i,h1,h2=>by
  rw [ref10_Entry_l1]
  by_cases h:i < s.length
  ·rw [if_pos (lt_i h),rmarked n s i (by omega) h1]
   simp only [Option.bind_some]
   rw [mkQ_at h,drop_at h,mk9_cons]
   by_cases hc:(s[i] == 58 && nxB (s.drop (i + 1))) = true
   ·obtain ⟨_,p2⟩:=plain_eq n (s.take i) (by rw [List.length_take]; omega) (by omega)
    rw [if_pos hc,if_pos hc,if_pos (le_i h1),tn,p2,Nat.add_zero,if_neg (by omega:¬ i = s.length)]
    simp only [Option.bind_some]
    have hc3:(bif (!plainB (s.take i)) then true else (s.take i == [60,60])) = (!plainB (s.take i) || s.take i == [60,60]):=by
     cases plainB (s.take i) <;> rfl
    rw [if_pos (by rw [le_i h1,Bool.or_true]),hc3]
    by_cases g4:(!plainB (s.take i) || s.take i == [60,60]) = true
    ·rw [if_pos g4,if_pos g4]
    ·rw [if_neg g4,if_neg g4,if_pos (le_i h1),rbehind n s i hs h (by omega)]; rfl
   ·have hc':(s[i] == 58 && nxB (s.drop (i + 1))) = false:=by simpa using hc
    rw [if_neg hc,if_neg hc,wrap_s i (by omega),rEntry_l1 n s hs hn k (i + 1) (by omega) (by omega)]
    rw [show i + 1 + mk9 (s.drop (i + 1)) = i + (mk9 (s.drop (i + 1)) + 1) by omega]
  ·have:i = s.length:=by omega
   subst this
   rw [nlt_n,List.drop_eq_nil_of_le (Nat.le_refl _),if_neg Bool.false_ne_true,if_pos (by rfl)]
theorem rEntry (n:Nat) (s:BS) (hs:s.length ≤ 10000) (hn:300000 ≤ n):ref10_Entry n s = some (entS n s):=by
 unfold ref10_Entry
 cases s with
 | nil=>rfl
 | cons c t =>
  generalize hS:c :: t = S at hs ⊢
  have hlen:0 < S.length:=by rw [← hS]; simp
  have h0:S[0] = c:=by subst hS; rfl
  have e1:((List.length S:Int) == 0) = false:=by
   have:¬ (List.length S:Int) = 0:=by omega
   simpa using this
  have z0:decide (0 ≤ (0:Int) ∧ (0:Int) < (List.length S:Int)) = true:=in_i hlen
  have z1:(S[Int.toNat 0]?.getD 0) = S[0]:=at_i hlen
  have hent:entS n S = (if (rowQ S || c == 91 || c == 123) = true then ([],[],0)
   else if (c == 34 || c == 39) = true then
    match quote_Scan n S 0 with
    | some (k,nx,e)=>if e = 0 ∧ mkQ S nx.toNat = true then (k,(S.drop (nx.toNat + 1)).dropWhile (· == 32),1) else ([],[],0)
    | none=>([],[],0)
   else if mk9 S = S.length then ([],[],0)
   else if (!plainB (S.take (mk9 S)) || S.take (mk9 S) == [60,60]) = true then ([],[],-1)
   else (S.take (mk9 S),(S.drop (mk9 S + 1)).dropWhile (· == 32),1):BS × BS × Int):=by subst hS; rfl
  rw [hent,e1,if_pos (by rfl),rRow]
  simp only [Option.bind_some]
  rw [z0,z1,h0,Bool.or_true,if_pos rfl,Bool.or_true,if_pos rfl]
  simp only [lett,cond_false]
  have hc1:(bif (bif rowQ S then true else ((c.toNat:Int) == 91)) then true else ((c.toNat:Int) == 123)) = (rowQ S || c == 91 || c == 123):=by
   rw [show ((c.toNat:Int) == 91) = (c == 91) from beq_bytes c 91,show ((c.toNat:Int) == 123) = (c == 123) from beq_bytes c 123]
   cases rowQ S <;> cases (c == 91) <;> rfl
  rw [hc1]
  by_cases g1:(rowQ S || c == 91 || c == 123) = true
  ·rw [if_pos g1,if_pos g1]
  rw [if_neg g1,if_neg g1]
  simp only [Bool.or_true,if_true]
  have hc2:(bif ((c.toNat:Int) == 34) then true else ((c.toNat:Int) == 39)) = (c == 34 || c == 39):=by
   rw [show ((c.toNat:Int) == 34) = (c == 34) from beq_bytes c 34,show ((c.toNat:Int) == 39) = (c == 39) from beq_bytes c 39]
   cases (c == 34) <;> rfl
  rw [hc2]
  by_cases g2:(c == 34 || c == 39) = true
  ·rw [if_pos g2,if_pos g2]
   have hq:S[0] = 34 ∨ S[0] = 39:=by rw [h0]; simpa using g2
   obtain ⟨tx,e,s1,s2,s3⟩:=scan_both n S 0 hs (by omega) hlen hq
   have s1:quote_Scan n S 0 = some (tx,e):=s1
   have s2:ref06_Scan n S 0 = some (tx,e):=s2
   rw [s1,s2]
   obtain ⟨x1,x2⟩:=e
   simp only [Option.bind_some] at s3 ⊢
   rcases s3 with ⟨h0',rfl⟩ | ⟨h0',_,j,rfl,q2,q3⟩
   ·have:(x2 == 0) = false:=by simpa using h0'
    rw [this,if_neg (by decide),if_neg (fun h=>h0' h.1)]
    rfl
   ·subst h0'
    rw [if_pos (by rfl),rmarked n S j (by omega) q3]
    simp only [Option.bind_some,tn]
    by_cases g3:mkQ S j = true
    ·have hj:j < S.length:=by
      rcases Nat.lt_or_ge j S.length with h | h
      ·exact h
      ·unfold mkQ at g3; rw [dif_neg (by omega)] at g3; cases g3
     rw [g3,if_pos (by decide),if_pos (by simp),rbehind n S j hs hj (by omega)]; rfl
    ·have g3':mkQ S j = false:=by simpa using g3
     rw [g3',if_neg (by decide),if_neg (by simp)]
  ·rw [if_neg g2,if_neg g2]
   have hl2:=rEntry_l1 n S hs hn n 0 (Nat.zero_le _) (by omega)
   have hl2:ref10_Entry_l1 n S n 0 = _:=hl2
   rw [hl2,List.drop_zero,Nat.zero_add]
   by_cases g3:mk9 S = S.length
   ·rw [if_pos g3,if_pos g3]; rfl
   ·rw [if_neg g3,if_neg g3]
    by_cases g4:(!plainB (S.take (mk9 S)) || S.take (mk9 S) == [60,60]) = true
    ·rw [if_pos g4,if_pos g4]; rfl
    ·rw [if_neg g4,if_neg g4]; rfl
theorem rvalue (n:Nat) (s:BS) (no next:Int) (hs:s.length ≤ 10000) (hn:400000 ≤ n):ref10_value n s no next = some (if (valS n s).2 = 0 then S_ref10_Found.mk (valS n s).1 next 0 0 else S_ref10_Found.mk Z8 0 no (valS n s).2):=by
 unfold ref10_value
 cases s with
 | nil=>rfl
 | cons c t =>
  generalize hS:c :: t = S at hs ⊢
  have hlen:0 < S.length:=by rw [← hS]; simp
  have h0:S[0] = c:=by subst hS; rfl
  have e1:decide ((List.length S:Int) > 0) = true:=decide_eq_true (by omega)
  have z0:decide (0 ≤ (0:Int) ∧ (0:Int) < (List.length S:Int)) = true:=in_i hlen
  have z1:(S[Int.toNat 0]?.getD 0) = S[0]:=at_i hlen
  have hval:valS n S = if (c == 91 || c == 123) = true then (flow_Parse n S).getD (Z8,3) else (flow_Scalar n S false).getD (Z8,3):=by subst hS; rfl
  rw [e1,z0,z1,h0,Bool.or_true,Bool.or_true,if_pos rfl,if_pos rfl]
  simp only [lett,cond_true]
  have hc1:(bif ((c.toNat:Int) == 91) then true else ((c.toNat:Int) == 123)) = (c == 91 || c == 123):=by
   rw [show ((c.toNat:Int) == 91) = (c == 91) from beq_bytes c 91,show ((c.toNat:Int) == 123) = (c == 123) from beq_bytes c 123]
   cases (c == 91) <;> rfl
  rw [hc1,hval]
  by_cases g:(c == 91 || c == 123) = true
  ·obtain ⟨x,e,p1,p2,_,_⟩:=parse_ref n S hs hn
   rw [if_pos g,if_pos g,p1,p2]
   simp only [Option.bind_some,Option.getD_some]
   by_cases he:e = 0
   ·rw [if_neg (by rw [he]; decide),if_pos he]
   ·rw [if_pos (by simpa using he),if_neg he]; rfl
  ·obtain ⟨x,e,ok,p1,p2,p3,p4,_⟩:=scalar_ref n S false hs (by omega)
   rw [if_neg g,if_neg g,p1,p2]
   simp only [Option.bind_some,Option.getD_some]
   cases ok with
   | true=>subst p3; rfl
   | false=>subst p3; rfl
theorem rwith_l (n:Nat) (l:List Ln) (a:Nat) (y:Ln) (hl:l.length ≤ 100000):∀ (k i:Nat),i ≤ l.length → l.length - i < k → ref10_with_l1 n l (a:Int) y k ((l.set a y).take i) (i:Int) = some (l.set a y)
 | 0,i,_,h=>by omega
 | k + 1,i,h1,h2=>by
  rw [ref10_with_l1]
  have hls:(l.set a y).length = l.length:=List.length_set ..
  by_cases h:i < l.length
  ·have hi':i < (l.set a y).length:=by omega
   have ht:((l.set a y).take i).length = i:=by rw [List.length_take,hls]; omega
   have hj:ref10_with_j2 n l (a:Int) ((l.set a y).take i) (i:Int) y = some ((l.set a y).take (i + 1)):=by
    unfold ref10_with_j2
    rw [List.take_succ_eq_append_getElem hi',List.getElem_set]
    by_cases c:i = a
    ·subst c
     rw [if_pos (by simp),if_pos rfl,if_pos (decide_eq_true (by rw [ht]; show (i + 1) * (32 + 1) ≤ 140737488355328; omega))]
    ·rw [if_neg (by rw [eq_i]; simpa using c),if_neg (show ¬ a = i from fun h=>c h.symm),if_pos (in_i h),at_i h,if_pos (decide_eq_true (by rw [ht]; show (i + 1) * (32 + 1) ≤ 140737488355328; omega))]
   rw [if_pos (lt_i h),hj,Option.bind_some,wrap_s i (by omega)]
   exact rwith_l n l a y hl k (i + 1) (by omega) (by omega)
  ·have:i = l.length:=by omega
   rw [if_neg (by rw [nlt_i (by omega)]; decide),List.take_of_length_le (by omega)]
theorem rwith (n:Nat) (l:List Ln) (a:Nat) (y:Ln) (hl:l.length ≤ 100000) (hn:200000 ≤ n):ref10_with n l (a:Int) y = some (l.set a y):=by
 unfold ref10_with
 have h:=rwith_l n l a y hl n 0 (Nat.zero_le _) (by omega)
 rw [List.take_zero] at h
 have h:ref10_with_l1 n l (a:Int) y n [] 0 = some (l.set a y):=h
 rw [h]; rfl
theorem cl1 (n:Nat) (x y:S_line_Line) (hx:x.f_Text.length ≤ 10000):∀ (k i:Nat),i ≤ x.f_Text.length → x.f_Text.length - i < k → ref07_Cut_l1 n x y k (i:Int) = some ((i + ind (x.f_Text.drop i):Nat):Int)
 | 0,i,_,h=>by omega
 | k + 1,i,h1,h2=>by
  rw [ref07_Cut_l1]
  by_cases h:i < x.f_Text.length
  ·rw [if_pos (by rw [in_i h,Bool.or_true]),lt_i h,cond_true,at_i h,b32,drop_at h,ind_cons]
   simp only [lett]
   by_cases hc:x.f_Text[i] = 32
   ·rw [if_pos (decide_eq_true hc),if_pos hc,wrap_s i (by omega),cl1 n x y hx k (i + 1) (by omega) (by omega)]
    rw [show i + 1 + ind (List.drop (i + 1) x.f_Text) = i + (ind (List.drop (i + 1) x.f_Text) + 1) by omega]
   ·rw [if_neg (by simpa using hc),if_neg hc]; rfl
  ·rw [if_pos (by rw [nlt_i (Nat.not_lt.1 h)]; rfl),nlt_i (Nat.not_lt.1 h),cond_false,List.drop_eq_nil_of_le (by omega)]; rfl
theorem rcut (n:Nat) (x:Ln) (hx:LnOk x) (hne:x.f_Text ≠ []) (hn:200000 ≤ n):ref07_Cut n x 1 = some (cutS x):=by
 unfold ref07_Cut cutS
 have hlen:0 < x.f_Text.length:=List.length_pos_iff.2 hne
 obtain ⟨h1,h2⟩:=hx
 have hil:=ind_le (x.f_Text.drop 1)
 rw [List.length_drop] at hil
 have hc:=cl1 n x (S_line_Line.mk 0 0 []) (by omega) n 1 (by omega) (by omega)
 have hc:ref07_Cut_l1 n x (S_line_Line.mk 0 0 []) n 1 = some ((1 + ind (x.f_Text.drop 1):Nat):Int):=hc
 rw [show decide ((1:Int) < 0) = false from rfl,decide_eq_false (show ¬ (1:Int) > (x.f_Text.length:Int) by omega),if_neg (by decide),hc,Option.bind_some,if_pos (le_i (by omega)),tn]
 have ht:(x.f_Text.drop 1).dropWhile (· == 32) = x.f_Text.drop (1 + ind (x.f_Text.drop 1)):=by rw [← drop_ind,List.drop_drop]
 rw [ht,List.length_drop,wrap_id _ (by omega) (by omega)]
 congr 2
 omega
def QR (l:List Ln) (at0:Nat) (o:Rs) (f:S_ref10_Found):Prop :=
 match o with
 | .inl e=>e.2 ≠ 0 ∧ f.f_E = e.2 ∧ f.f_No = e.1
 | .inr w=>f.f_N = w.1 ∧ f.f_E = 0 ∧ ∃ a':Nat,f.f_Next = (a':Int) ∧ a' ≤ l.length ∧ l.drop a' = w.2 ∧ at0 ≤ a'
theorem QR.mono {l:List Ln} {a b:Nat} {o:Rs} {p:S_ref10_Found} (h:QR l b o p) (hab:a ≤ b):QR l a o p:=by
 unfold QR at h ⊢
 cases o with
 | inl e=>exact h
 | inr w =>
  obtain ⟨h1,h2,at',h4,h5,h6,h7⟩:=h
  exact ⟨h1,h2,at',h4,h5,h6,by omega⟩
abbrev Rq:=List Ln → Int → Option S_ref10_Found
def BlkQ (Q:Rq) (B:List Ln → Rs) (M:Nat):Prop:=∀ (l:List Ln) (a:Nat),a < l.length → l.length ≤ 100000 → LsOk (l.drop a) → mu (l.drop a) < M → ∃ f,Q l (a:Int) = some f ∧ QR l a (B (l.drop a)) f
theorem rdeeper (n:Nat) (l:List Ln) (a:Nat) (ind:Int) (ha:a ≤ l.length):ref10_deeper n l (a:Int) ind = some (match l.drop a with | []=>false | x :: _=>decide (ind < x.f_Indent)):=by
 unfold ref10_deeper
 by_cases h:a < l.length
 ·rw [lt_i h,if_pos (by rw [in_i h,Bool.or_true]),at_i h,drop_at h]; rfl
 ·rw [nlt_i (by omega),List.drop_eq_nil_of_le (by omega)]; rfl
theorem rrow_l (Q:Rq) (B:List Ln → Rs) (M:Nat) (hQ:BlkQ Q B M) (hG:∀ ls,LsOk ls → mu ls < M → GoodR' ls (B ls)) (n:Nat) (hn:200000 ≤ n) (ind:Int):∀ (k:Nat) (l:List Ln) (a:Nat) (z:S_ref10_Found) (acc:List Nd),a ≤ l.length → l.length ≤ 100000 → LsOk (l.drop a) → mu (l.drop a) ≤ M → l.length - a < k → acc.length + (l.length - a) ≤ 200000 →
  ∃ o,ref10_row_l1 Q n l ind k (a:Int) z (S_api_Node.mk 2 [] [] acc) = some o ∧ QR l a (rowL B ind k acc (l.drop a)) (Sum.elim (fun o=>S_ref10_Found.mk o.2.2 o.1 0 0) (fun o=>o) o)
 | 0,_,_,_,_,_,_,_,_,h,_=>by omega
 | k + 1,l,a,z,acc,ha,hl,hok,hM,hk,hc=>by
  rw [ref10_row_l1]
  by_cases h:a < l.length
  ·have hd:=drop_at h
   generalize hx:l[a] = x at hd
   rw [hd] at hok hM ⊢
   have hxok:=hok.2 x List.mem_cons_self
   have hokr:LsOk (l.drop (a + 1)):=hok.suffix (List.suffix_cons x _)
   rw [if_pos (by rw [in_i h,Bool.or_true]),lt_i h,at_i h,hx]
   simp only [lett,cond_true]
   unfold rowL
   by_cases c1:ind < x.f_Indent
   ·rw [if_pos (decide_eq_true (by omega)),if_pos (in_i h),if_pos (decide_eq_true c1),if_pos c1]
    exact ⟨_,rfl,show (3:Int) ≠ 0 by decide,rfl,rfl⟩
   rw [if_neg c1]
   by_cases c0:x.f_Indent < ind
   ·rw [if_neg (by rw [decide_eq_false (by omega:¬ x.f_Indent ≥ ind)]; decide),if_pos (.inl c0)]
    exact ⟨_,rfl,rfl,rfl,a,rfl,ha,hd,Nat.le_refl _⟩
   rw [if_pos (decide_eq_true (by omega)),if_pos (in_i h),if_neg (by rw [decide_eq_false (by omega:¬ x.f_Indent > ind)]; decide),rRow]
   simp only [Option.bind_some]
   by_cases hq:rowQ x.f_Text = true
   case neg =>
    have hq':rowQ x.f_Text = false:=by simpa using hq
    rw [hq',if_pos (by rfl),if_pos (.inr rfl)]
    exact ⟨_,rfl,rfl,rfl,a,rfl,ha,hd,Nat.le_refl _⟩
   rw [hq,if_neg (by decide),if_neg (by rintro (h | h); exact c0 h; cases h),wrap_s a (by omega)]
   have hkid:∀ v rest,rowKid B ind x (l.drop (a + 1)) = .inr (v,rest) → rest <:+ l.drop (a + 1):=fun v rest hk=>(rowKid_good hG hok hq hM hk).2
   have hj:∃ f,ref10_row_j2 Q n l (a:Int) ind (decide ((List.length x.f_Text:Int) > 1)) z (S_api_Node.mk 2 [] [] acc) x (S_ref10_Found.mk (S_api_Node.mk 0 [] [] []) ((a + 1:Nat):Int) 0 0) = some f ∧ QR l a (rowKid B ind x (l.drop (a + 1))) f:=by
    unfold ref10_row_j2 rowKid
    by_cases c3:x.f_Text = [45]
    ·rw [if_pos c3,c3,if_neg (by decide),wrap_s a (by omega),rdeeper n l (a + 1) ind (by omega)]
     simp only [Option.bind_some]
     have hmu:mu (x :: l.drop (a + 1)) = x.f_Text.length + 1 + mu (l.drop (a + 1)):=rfl
     unfold inS
     by_cases h2:a + 1 < l.length
     ·have hq:=hQ l (a + 1) h2 hl hokr (by omega)
      have hd2:=drop_at h2
      rw [hd2] at hq ⊢
      simp only
      by_cases c4:ind < l[a + 1].f_Indent
      ·obtain ⟨f,g1,g2⟩:=hq
       rw [if_pos (decide_eq_true c4),g1,if_pos (.inl c4)]
       exact ⟨f,rfl,g2.mono (by omega)⟩
      ·rw [if_neg (by simpa using c4),if_neg (by rintro (h | h); exact c4 h; cases h.1)]
       exact ⟨_,rfl,rfl,rfl,a + 1,rfl,by omega,hd2,by omega⟩
     ·have hd2:l.drop (a + 1) = []:=List.drop_eq_nil_of_le (by omega)
      rw [hd2]
      simp only
      rw [if_neg Bool.false_ne_true]
      exact ⟨_,rfl,rfl,rfl,a + 1,rfl,by omega,hd2,by omega⟩
    ·have hlen2:1 < x.f_Text.length:=by
      rcases hT:x.f_Text with _ | ⟨c,_ | ⟨d,r⟩⟩
      ·rw [hT] at hq; cases hq
      ·exfalso
       rw [hT] at hq
       have:c = 45:=by simpa [rowQ] using hq
       exact c3 (by rw [hT,this])
      ·simp
     have hcut:=cut_mu (x:=x) (r:=l.drop (a + 1)) (rowQ_ne hq)
     have hset:=set_drop h (cutS x)
     obtain ⟨f,g1,g2⟩:=hQ (l.set a (cutS x)) a (by rw [List.length_set]; exact h) (by rw [List.length_set]; exact hl) (by rw [hset]; exact ok_cut hok) (by rw [hset]; omega)
     rw [hset] at g2
     rw [if_neg c3,if_pos (decide_eq_true (by omega)),rcut n x hxok (rowQ_ne hq) hn]
     simp only [Option.bind_some]
     rw [rwith n l a (cutS x) hl hn]
     simp only [Option.bind_some]
     rw [g1]
     refine ⟨f,rfl,?_⟩
     have hgd:=hG (cutS x :: l.drop (a + 1)) (ok_cut hok) (by omega)
     cases hr:B (cutS x :: l.drop (a + 1)) with
     | inl e=>rw [hr] at g2; exact g2
     | inr w =>
      obtain ⟨v,rest⟩:=w
      have hsuf:=(hgd v rest hr).2
      rw [List.tail_cons] at hsuf
      have hlen:=hsuf.length_le
      rw [hr] at g2
      obtain ⟨h1,h2,a',h4,h5,h6,h7⟩:=g2
      rw [List.length_set] at h5
      have h6':(l.set a (cutS x)).drop a' = rest:=h6
      have hlt:a < a':=by
       have:((l.set a (cutS x)).drop a').length = rest.length:=by rw [h6']
       rw [List.length_drop,List.length_set] at this
       rw [List.length_drop] at hlen
       omega
      rw [List.drop_set_of_lt hlt] at h6'
      exact ⟨h1,h2,a',h4,h5,h6',by omega⟩
   obtain ⟨f,f1,f2⟩:=hj
   rw [f1]
   simp only [Option.bind_some]
   cases hr:rowKid B ind x (l.drop (a + 1)) with
   | inl e =>
    rw [hr] at f2
    obtain ⟨h1,h2,h3⟩:=f2
    rw [if_pos (by rw [h2]; simpa using h1)]
    exact ⟨_,rfl,h1,h2,h3⟩
   | inr w =>
    obtain ⟨v,rest⟩:=w
    have hsuf:=hkid v rest hr
    rw [hr] at f2
    obtain ⟨h1,h2,a',h4,h5,h6,h7⟩:=f2
    have h6':l.drop a' = rest:=h6
    have hlen:=hsuf.length_le
    have hll:(l.drop a').length = rest.length:=by rw [h6']
    rw [List.length_drop] at hll hlen
    have hmu:=mu_tail (x:=x) hsuf
    rw [if_neg (by rw [h2]; decide),if_pos (decide_eq_true (by show (acc.length + 1) * (72 + 1) ≤ 140737488355328; omega)),h4]
    obtain ⟨o,g1,g2⟩:=rrow_l Q B M hQ hG n hn ind k l a' z (acc ++ [v]) (by omega) hl (by rw [h6']; exact hokr.suffix hsuf) (by rw [h6']; omega) (by omega) (by simp; omega)
    have h1:f.f_N = v:=h1
    rw [h1]
    rw [h6'] at g2
    exact ⟨o,g1,g2.mono h7⟩
  ·have hd:l.drop a = []:=List.drop_eq_nil_of_le (by omega)
   rw [hd,nlt_i (by omega),if_pos (by rfl)]
   simp only [lett,cond_false]
   rw [if_neg Bool.false_ne_true]
   unfold rowL
   exact ⟨_,rfl,rfl,rfl,a,rfl,ha,hd,Nat.le_refl _⟩
theorem rpairs_l (Q:Rq) (B:List Ln → Rs) (M:Nat) (hQ:BlkQ Q B M) (hG:∀ ls,LsOk ls → mu ls < M → GoodR' ls (B ls)) (n:Nat) (hn:400000 ≤ n) (hVR:∀ s:BS,s.length ≤ 10000 → Red 10000 (valS n s).1) (ind:Int):∀ (k:Nat) (l:List Ln) (a:Nat) (z:S_ref10_Found) (ks:List BS) (acc:List Nd),a ≤ l.length → l.length ≤ 100000 → LsOk (l.drop a) → mu (l.drop a) ≤ M → l.length - a < k → acc.length + (l.length - a) ≤ 100000 → ks.length + (l.length - a) ≤ 100000 →
  ∃ o,ref10_pairs_l1 Q n l ind k (a:Int) z (S_api_Node.mk 3 [] ks acc) = some o ∧ QR l a (pairL n B ind k ks acc (l.drop a)) (Sum.elim (fun o=>S_ref10_Found.mk o.2.2 o.1 0 0) (fun o=>o) o)
 | 0,_,_,_,_,_,_,_,_,_,h,_,_=>by omega
 | k + 1,l,a,z,ks,acc,ha,hl,hok,hM,hk,hc,hc2=>by
  rw [ref10_pairs_l1]
  by_cases h:a < l.length
  ·have hd:=drop_at h
   generalize hx:l[a] = x at hd
   rw [hd] at hok hM ⊢
   have hxt:=hok.text
   have hokr:LsOk (l.drop (a + 1)):=hok.suffix (List.suffix_cons x _)
   obtain ⟨e1,e2,e3,e4⟩:=ent_len n x.f_Text hxt (by omega)
   rw [if_pos (by rw [in_i h,Bool.or_true]),lt_i h,at_i h,hx]
   simp only [lett,cond_true]
   unfold pairL
   by_cases c0:x.f_Indent < ind
   ·rw [if_neg (by rw [decide_eq_false (by omega:¬ x.f_Indent ≥ ind)]; decide),if_neg (by rintro (h | h) <;> omega),if_pos (.inl c0)]
    exact ⟨_,rfl,rfl,rfl,a,rfl,ha,hd,Nat.le_refl _⟩
   rw [if_pos (decide_eq_true (by omega)),if_pos (in_i h),rEntry n x.f_Text hxt (by omega)]
   simp only [Option.bind_some]
   generalize hE:entS n x.f_Text = E at e1 e2 e3 e4
   obtain ⟨key,rest,kind⟩:=E
   simp only at e1 e2 e3 e4 ⊢
   have hin:(if (((decide (kind > 0)) == true) && ((bif (decide (x.f_Indent > ind)) then true else (decide (kind < 0))) == false)) = true then ref02_In n ks key else some false) = some (decide (kind > 0) && (!decide (x.f_Indent > ind) && decide (key ∈ ks))):=by
    rw [rIn n ks key (by omega) (by omega)]
    by_cases k1:kind > 0
    ·rw [decide_eq_true k1,decide_eq_false (by omega:¬ kind < 0)]
     cases decide (x.f_Indent > ind) <;> rfl
    ·rw [decide_eq_false k1]; rfl
   rw [hin]
   simp only [Option.bind_some]
   have hx3:(bif (bif (decide (x.f_Indent > ind)) then true else (decide (kind < 0))) then true else (bif (decide (kind > 0)) then (decide (kind > 0) && (!decide (x.f_Indent > ind) && decide (key ∈ ks))) else false)) = decide (ind < x.f_Indent ∨ (x.f_Indent = ind ∧ (kind < 0 ∨ (0 < kind ∧ key ∈ ks)))):=by
    by_cases c1:ind < x.f_Indent
    ·simp [c1]
    ·have c2:x.f_Indent = ind:=by omega
     subst c2
     by_cases c3:kind < 0
     ·simp [c3]
     ·by_cases c4:kind > 0 <;> by_cases c5:key ∈ ks <;> simp [c3,c4,c5]
   rw [hx3]
   by_cases c1:ind < x.f_Indent ∨ (x.f_Indent = ind ∧ (kind < 0 ∨ (0 < kind ∧ key ∈ ks)))
   ·rw [decide_eq_true c1,if_pos rfl,if_pos c1]
    exact ⟨_,rfl,show (3:Int) ≠ 0 by decide,rfl,rfl⟩
   rw [decide_eq_false c1,if_neg Bool.false_ne_true,if_neg c1]
   by_cases ck:kind = 0
   ·rw [if_pos (by rw [ck]; rfl),if_pos (.inr ck)]
    exact ⟨_,rfl,rfl,rfl,a,rfl,ha,hd,Nat.le_refl _⟩
   rw [if_neg (by simpa using ck),if_neg (by rintro (h | h); exact c0 h; exact ck h),wrap_s a (by omega)]
   have hkid:∀ v r',pairKid n B ind x rest (l.drop (a + 1)) = .inr (v,r') → r' <:+ l.drop (a + 1):=fun v r' hk=>(pairKid_good hVR hG (Nat.le_trans e2 hxt) hok hM hk).2
   have hp:∃ f,ref10_pairs_j2 Q n l (a:Int) ind key rest (decide ((List.length rest:Int) > 0)) z (S_api_Node.mk 3 [] ks acc) x (S_ref10_Found.mk (S_api_Node.mk 0 [] [] []) ((a + 1:Nat):Int) 0 0) = some f ∧ QR l a (pairKid n B ind x rest (l.drop (a + 1))) f:=by
    unfold ref10_pairs_j2 pairKid
    by_cases c3:rest = []
    ·have hmu:mu (x :: l.drop (a + 1)) = x.f_Text.length + 1 + mu (l.drop (a + 1)):=rfl
     rw [c3,if_neg (by decide),if_neg (by simp),wrap_s a (by omega),rdeeper n l (a + 1) ind (by omega)]
     simp only [Option.bind_some]
     unfold inS
     by_cases h2:a + 1 < l.length
     ·have hq:=hQ l (a + 1) h2 hl hokr (by omega)
      have hd2:=drop_at h2
      rw [hd2] at hq ⊢
      simp only
      rw [lt_i h2,in_i h2,at_i h2,if_pos (by rw [Bool.or_true]),if_pos (by rw [Bool.or_true]),rRow]
      have hcc:(if (((bif true then (l[a + 1].f_Indent == ind) else false) == true) && ((decide (ind < l[a + 1].f_Indent)) == false)) = true then some (rowQ l[a + 1].f_Text) else some false) = some ((l[a + 1].f_Indent == ind) && (!decide (ind < l[a + 1].f_Indent) && rowQ l[a + 1].f_Text)):=by
       simp only [cond_true]
       cases (l[a + 1].f_Indent == ind) <;> cases decide (ind < l[a + 1].f_Indent) <;> rfl
      rw [hcc]
      simp only [Option.bind_some,lett]
      have hcd:(bif decide (ind < l[a + 1].f_Indent) then true else (bif (bif true then (l[a + 1].f_Indent == ind) else false) then ((l[a + 1].f_Indent == ind) && (!decide (ind < l[a + 1].f_Indent) && rowQ l[a + 1].f_Text)) else false)) = decide (ind < l[a + 1].f_Indent ∨ (True ∧ l[a + 1].f_Indent = ind ∧ rowQ l[a + 1].f_Text = true)):=by
       by_cases d1:ind < l[a + 1].f_Indent
       ·rw [decide_eq_true d1,decide_eq_true (.inl d1)]; rfl
       ·rw [decide_eq_false d1]
        by_cases d2:l[a + 1].f_Indent = ind
        ·have e0:(l[a + 1].f_Indent == ind) = true:=by simpa using d2
         rw [e0]
         cases hq2:rowQ l[a + 1].f_Text with
         | true=>rw [decide_eq_true (.inr ⟨trivial,d2,rfl⟩)]; rfl
         | false=>rw [decide_eq_false (by rintro (h | h); exact d1 h; exact absurd h.2.2 (by decide))]; rfl
        ·have e0:(l[a + 1].f_Indent == ind) = false:=by simpa using d2
         rw [e0,decide_eq_false (by rintro (h | h); exact d1 h; exact d2 h.2.1)]; rfl
      rw [hcd]
      by_cases c4:ind < l[a + 1].f_Indent ∨ (True ∧ l[a + 1].f_Indent = ind ∧ rowQ l[a + 1].f_Text = true)
      ·obtain ⟨f,g1,g2⟩:=hq
       rw [if_pos (decide_eq_true c4),g1,if_pos c4]
       exact ⟨f,rfl,g2.mono (by omega)⟩
      ·rw [if_neg (by simpa using c4),if_neg c4]
       exact ⟨_,rfl,rfl,rfl,a + 1,rfl,by omega,hd2,by omega⟩
     ·have hd2:l.drop (a + 1) = []:=List.drop_eq_nil_of_le (by omega)
      rw [hd2,nlt_i (by omega)]
      simp only
      exact ⟨_,rfl,rfl,rfl,a + 1,rfl,by omega,hd2,by omega⟩
    ·have hpos:0 < rest.length:=List.length_pos_iff.2 c3
     rw [if_pos (decide_eq_true (by omega)),if_pos c3,wrap_s a (by omega),rvalue n rest _ _ (Nat.le_trans e2 hxt) (by omega)]
     unfold valR
     by_cases c4:(valS n rest).2 = 0
     ·rw [if_pos c4,if_pos c4]
      exact ⟨_,rfl,rfl,rfl,a + 1,rfl,by omega,rfl,by omega⟩
     ·rw [if_neg c4,if_neg c4]
      exact ⟨_,rfl,c4,rfl,rfl⟩
   obtain ⟨f,f1,f2⟩:=hp
   rw [f1]
   simp only [Option.bind_some]
   cases hr:pairKid n B ind x rest (l.drop (a + 1)) with
   | inl e =>
    rw [hr] at f2
    obtain ⟨h1,h2,h3⟩:=f2
    rw [if_pos (by rw [h2]; simpa using h1)]
    exact ⟨_,rfl,h1,h2,h3⟩
   | inr w =>
    obtain ⟨v,r'⟩:=w
    have hsuf:=hkid v r' hr
    rw [hr] at f2
    obtain ⟨h1,h2,a',h4,h5,h6,h7⟩:=f2
    have h6':l.drop a' = r':=h6
    have hlen:=hsuf.length_le
    have hll:(l.drop a').length = r'.length:=by rw [h6']
    rw [List.length_drop] at hll hlen
    have hmu:=mu_tail (x:=x) hsuf
    rw [if_neg (by rw [h2]; decide),if_pos (decide_eq_true (by show (ks.length + 1) * (16 + 1) ≤ 140737488355328; omega)),if_pos (decide_eq_true (by show (acc.length + 1) * (72 + 1) ≤ 140737488355328; omega)),h4]
    obtain ⟨o,g1,g2⟩:=rpairs_l Q B M hQ hG n hn hVR ind k l a' z (ks ++ [key]) (acc ++ [v]) (by omega) hl (by rw [h6']; exact hokr.suffix hsuf) (by rw [h6']; omega) (by omega) (by simp; omega) (by simp; omega)
    have h1:f.f_N = v:=h1
    rw [h1]
    rw [h6'] at g2
    exact ⟨o,g1,g2.mono h7⟩
  ·have hd:l.drop a = []:=List.drop_eq_nil_of_le (by omega)
   rw [hd,nlt_i (by omega),if_pos (by rfl)]
   simp only [lett,cond_false]
   rw [if_neg Bool.false_ne_true]
   unfold pairL
   exact ⟨_,rfl,rfl,rfl,a,rfl,ha,hd,Nat.le_refl _⟩
theorem rblock (hVR:∀ (n:Nat) (s:BS),400000 ≤ n → s.length ≤ 10000 → Red 10000 (valS n s).1):∀ (n M:Nat),M + 400000 ≤ n → BlkQ (ref10_Block n) (blkS n) M
 | 0,_,h=>by omega
 | n + 1,M,hn=>by
  intro l a ha hl hok hM
  have hd:=drop_at ha
  generalize hx:l[a] = x at hd
  rw [hd] at hok hM ⊢
  have hxt:=hok.text
  have hll:=hok.1
  rw [List.length_cons,List.length_drop] at hll
  have hmux:mu (x :: l.drop (a + 1)) = x.f_Text.length + 1 + mu (l.drop (a + 1)):=rfl
  have hlm:=len_mu (l.drop (a + 1))
  rw [List.length_drop] at hlm
  have hQ:BlkQ (ref10_Block n) (blkS n) (M - 1):=rblock hVR n (M - 1) (by omega)
  have hG:∀ ls,LsOk ls → mu ls < M - 1 → GoodR' ls (blkS n ls):=fun ls h1 h2=>blkS_good hVR n ls h1 (by omega)
  obtain ⟨e1,e2,e3,e4⟩:=ent_len n x.f_Text hxt (by omega)
  show ∃ f,ref10_Block_b (ref10_Block n) n l (a:Int) = some f ∧ _
  unfold ref10_Block_b
  rw [if_pos (in_i ha),at_i ha,hx,rRow,rEntry n x.f_Text hxt (by omega)]
  simp only [Option.bind_some]
  unfold blkS
  by_cases c1:rowQ x.f_Text = true
  ·rw [if_pos c1,if_pos c1]
   obtain ⟨o,g1,g2⟩:=rrow_l _ _ (M - 1) hQ hG n (by omega) x.f_Indent n l a (S_ref10_Found.mk (S_api_Node.mk 0 [] [] []) 0 0 0) [] (by omega) hl (by rw [hd]; exact hok) (by rw [hd]; omega) (by omega) (by simp; omega)
   unfold ref10_row
   rw [if_pos (in_i ha),at_i ha,hx,g1]
   rw [hd] at g2
   refine ⟨_,?_,g2⟩
   cases o <;> rfl
  rw [if_neg c1,if_neg c1]
  by_cases c3:(entS n x.f_Text).2.2 < 0
  ·rw [if_pos (decide_eq_true c3),if_neg (by omega),if_pos c3]
   exact ⟨_,rfl,show (3:Int) ≠ 0 by decide,rfl,rfl⟩
  rw [if_neg (by simpa using c3)]
  by_cases c2:0 < (entS n x.f_Text).2.2
  ·rw [if_pos (decide_eq_true c2),if_pos c2]
   obtain ⟨o,g1,g2⟩:=rpairs_l _ _ (M - 1) hQ hG n (by omega) (fun s hs=>hVR n s (by omega) hs) x.f_Indent n l a (S_ref10_Found.mk (S_api_Node.mk 0 [] [] []) 0 0 0) [] [] (by omega) hl (by rw [hd]; exact hok) (by rw [hd]; omega) (by omega) (by simp; omega) (by simp; omega)
   unfold ref10_pairs
   rw [if_pos (in_i ha),at_i ha,hx,g1]
   rw [hd] at g2
   refine ⟨_,?_,g2⟩
   cases o <;> rfl
  rw [if_neg (by simpa using c2),if_neg c2,if_neg c3,wrap_s a (by omega),rvalue n x.f_Text _ _ hxt (by omega)]
  unfold valR
  by_cases c4:(valS n x.f_Text).2 = 0
  ·rw [if_pos c4,if_pos c4]
   exact ⟨_,rfl,rfl,rfl,a + 1,rfl,by omega,rfl,by omega⟩
  ·rw [if_neg c4,if_neg c4]
   exact ⟨_,rfl,c4,rfl,rfl⟩
end Go.Proofs.YtefojkdckfidcaaGreatDoor.M
