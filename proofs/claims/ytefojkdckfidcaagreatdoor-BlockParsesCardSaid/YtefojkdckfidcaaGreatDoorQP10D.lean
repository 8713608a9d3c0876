import Derived.Test.YtefojkdckfidcaaGreatDoorQP10C
set_option linter.all false
namespace Go.Proofs.YtefojkdckfidcaaGreatDoor.M
open Go Go.Proofs.YtefojkdckfidcaaGreatDoor.RX Go.Proofs.YtefojkdckfidcaaGreatDoor.PL
set_option maxRecDepth 100000
theorem plain_q (n:Nat) (s:List UInt8) (hs:s.length ≤ 100000) (hn:200000 ≤ n):quote_Plain n s = some (plainB s) ∧ True:=⟨(plain_eq n s hs hn).1,trivial⟩
abbrev Ln:=S_line_Line
def rowQ:BS → Bool
 | []=>false
 | [c]=>c == 45
 | c :: d :: _=>c == 45 && d == 32
theorem bRow (s:BS):block_Row s = rowQ s:=by
 unfold block_Row Lib.hasPrefix
 match s with
 | []=>rfl
 | [c] =>
  show (bif ([c] == [45]) then true else ((45 == c) && false)) = (c == 45)
  rw [Bool.and_false]
  by_cases h:c = 45
  ·subst h; rfl
  ·have h1:([c] == [45]) = false:=by simpa using h
   have h2:(c == 45) = false:=by simpa using h
   rw [h1,h2]; rfl
 | c :: d :: r =>
  have h1:((c :: d :: r) == [45]) = false:=by simp
  rw [h1]
  show ((45 == c) && ((32 == d) && true)) = (c == 45 && d == 32)
  rw [Bool.and_true,Bool.beq_comm (a:=c),Bool.beq_comm (a:=d)]
def mkQ (s:BS) (i:Nat):Bool:=if h:i < s.length then s[i] == 58 && blankN s (i + 1) else false
def nxB:BS → Bool
 | []=>true
 | d :: _=>d == 32
def mk9:BS → Nat
 | []=>0
 | c :: r=>if (c == 58 && nxB r) = true then 0 else mk9 r + 1
theorem mk9_cons (c:UInt8) (r:BS):mk9 (c :: r) = if (c == 58 && nxB r) = true then 0 else mk9 r + 1:=rfl
theorem mkQ_at {s:BS} {i:Nat} (h:i < s.length):mkQ s i = (s[i] == 58 && nxB (s.drop (i + 1))):=by
 unfold mkQ blankN
 rw [dif_pos h]
 by_cases h1:i + 1 < s.length
 ·rw [dif_pos h1,drop_at h1]; rfl
 ·rw [dif_neg h1,List.drop_eq_nil_of_le (by omega)]; rfl
theorem mk9_le:∀ l:BS,mk9 l ≤ l.length
 | []=>Nat.le_refl 0
 | c :: r=>by
  have:=mk9_le r
  unfold mk9
  exact ite_le (Nat.zero_le _) (by rw [List.length_cons]; omega)
theorem bmark (n:Nat) (s:BS) (i:Nat) (hs:s.length ≤ 100000) (hi:i ≤ s.length):block_mark n s (i:Int) = some (mkQ s i):=by
 unfold block_mark
 by_cases h:i < s.length
 ·rw [lt_i h,in_i h,at_i h,wrap_s i (by omega),b58,mkQ_at h,if_pos (by rfl)]
  simp only [lett,cond_true]
  by_cases h1:i + 1 < s.length
  ·have e0:(((i + 1:Nat):Int) == (s.length:Int)) = false:=by rw [eq_i]; exact decide_eq_false (by omega)
   simp only [in_i h1,Bool.or_true,if_true]
   rw [at_i h1,e0,b32,drop_at h1]
   congr 1
   show (bif decide (s[i] = 58) then decide (s[i + 1] = 32) else false) = (s[i] == 58 && s[i + 1] == 32)
   rw [byte_eq,byte_eq]
   cases (s[i] == 58) <;> rfl
  ·have he:i + 1 = s.length:=by omega
   have e0:(((i + 1:Nat):Int) == (s.length:Int)) = true:=by rw [eq_i]; exact decide_eq_true he
   rw [e0,if_pos (by rfl),List.drop_eq_nil_of_le (by omega)]
   congr 1
   show (bif decide (s[i] = 58) then true else false) = (s[i] == 58 && true)
   rw [byte_eq]
   cases (s[i] == 58) <;> rfl
 ·have hi':i = s.length:=by omega
  unfold mkQ
  rw [dif_neg h,nlt_i (by omega),if_pos (by rfl)]
  simp only [lett,cond_false]
  rw [if_pos (by cases ((IntKind.wrap .i64 ((i:Int) + 1) == (s.length:Int))) <;> rfl)]
theorem bEntry_l2 (n:Nat) (s:BS) (hs:s.length ≤ 100000):∀ (k i:Nat),i ≤ s.length → s.length - i < k → block_Entry_l2 n s k (i:Int) = some ((i + mk9 (s.drop i):Nat):Int)
 | 0,i,_,h=>by omega
 | k + 1,i,h1,h2=>by
  rw [block_Entry_l2]
  by_cases h:i < s.length
  ·rw [lt_i h,if_pos (by rfl:((true:Bool) == true) = true),bmark n s i hs h1]
   simp only [Option.bind_some,cond_true]
   rw [mkQ_at h,drop_at h,mk9_cons]
   by_cases hc:(s[i] == 58 && nxB (s.drop (i + 1))) = true
   ·rw [if_pos hc,hc,if_neg (by decide)]; rfl
   ·have hc':(s[i] == 58 && nxB (s.drop (i + 1))) = false:=by simpa using hc
    rw [if_neg hc,hc',if_pos (by decide),wrap_s i (by omega),bEntry_l2 n s hs k (i + 1) (by omega) (by omega)]
    congr 2; omega
  ·have:i = s.length:=by omega
   subst this
   rw [nlt_n,List.drop_eq_nil_of_le (Nat.le_refl _)]; rfl
def entS (n:Nat) (s:BS):BS × BS × Int :=
 match s with
 | []=>([],[],0)
 | c :: _ =>
  if (rowQ s || c == 91 || c == 123) = true then ([],[],0)
  else if (c == 34 || c == 39) = true then
   match quote_Scan n s 0 with
   | some (k,nx,e)=>if e = 0 ∧ mkQ s nx.toNat = true then (k,(s.drop (nx.toNat + 1)).dropWhile (· == 32),1) else ([],[],0)
   | none=>([],[],0)
  else if mk9 s = s.length then ([],[],0)
  else if (!plainB (s.take (mk9 s)) || s.take (mk9 s) == [60,60]) = true then ([],[],-1)
  else (s.take (mk9 s),(s.drop (mk9 s + 1)).dropWhile (· == 32),1)
theorem bEntry (n:Nat) (s:BS) (hs:s.length ≤ 10000) (hn:300000 ≤ n):block_Entry n s = some (entS n s):=by
 unfold block_Entry
 cases s with
 | nil=>rfl
 | cons c t =>
  generalize hS:c :: t = S at hs ⊢
  have hlen:0 < S.length:=by rw [← hS]; simp
  have h0:S[0] = c:=by subst hS; rfl
  have e1:(S == []) = false:=by rw [← hS]; rfl
  have z0:decide (0 ≤ (0:Int) ∧ (0:Int) < (List.length S:Int)) = true:=in_i hlen
  have z1:(S[Int.toNat 0]?.getD 0) = S[0]:=at_i hlen
  have hent:entS n S = (if (rowQ S || c == 91 || c == 123) = true then ([],[],0)
   else if (c == 34 || c == 39) = true then
    match quote_Scan n S 0 with
    | some (k,nx,e)=>if e = 0 ∧ mkQ S nx.toNat = true then (k,(S.drop (nx.toNat + 1)).dropWhile (· == 32),1) else ([],[],0)
    | none=>([],[],0)
   else if mk9 S = S.length then ([],[],0)
   else if (!plainB (S.take (mk9 S)) || S.take (mk9 S) == [60,60]) = true then ([],[],-1)
   else (S.take (mk9 S),(S.drop (mk9 S + 1)).dropWhile (· == 32),1):BS × BS × Int):=by subst hS; rfl
  rw [hent,e1,z0,z1,h0,bRow,Bool.or_true,Bool.or_true,if_pos rfl,if_pos rfl]
  simp only [lett,cond_false]
  have hc1:(bif (bif rowQ S then true else ((c.toNat:Int) == 91)) then true else ((c.toNat:Int) == 123)) = (rowQ S || c == 91 || c == 123):=by
   rw [show ((c.toNat:Int) == 91) = (c == 91) from beq_bytes c 91,show ((c.toNat:Int) == 123) = (c == 123) from beq_bytes c 123]
   cases rowQ S <;> cases (c == 91) <;> rfl
  rw [hc1]
  by_cases g1:(rowQ S || c == 91 || c == 123) = true
  ·rw [if_pos g1,if_pos g1]
  rw [if_neg g1,if_neg g1]
  simp only [Bool.or_true,if_true]
  have hc2:(bif ((c.toNat:Int) == 34) then true else ((c.toNat:Int) == 39)) = (c == 34 || c == 39):=by
   rw [show ((c.toNat:Int) == 34) = (c == 34) from beq_bytes c 34,show ((c.toNat:Int) == 39) = (c == 39) from beq_bytes c 39]
   cases (c == 34) <;> rfl
  rw [hc2]
  unfold block_Entry_j1
  by_cases g2:(c == 34 || c == 39) = true
  ·rw [if_pos g2,if_pos g2]
   have hq:S[0] = 34 ∨ S[0] = 39:=by rw [h0]; simpa using g2
   rcases Scan_tot n S 0 (by omega) (by omega) hlen hq with q1 | ⟨k,j,q1,q2,q3,q4⟩
   ·have q1:quote_Scan n S 0 = some ([],0,3):=q1
    rw [q1]; rfl
   ·have q1:quote_Scan n S 0 = some (k,(j:Int),0):=q1
    rw [q1]
    simp only [Option.bind_some]
    rw [if_pos (by rfl),bmark n S j (by omega) q3]
    simp only [Option.bind_some,tn]
    by_cases g3:mkQ S j = true
    ·have hj:j < S.length:=by
      rcases Nat.lt_or_ge j S.length with h | h
      ·exact h
      ·unfold mkQ at g3; rw [dif_neg (by omega)] at g3; cases g3
     rw [g3,if_neg (by decide),if_pos (by simp)]
     simp only [Option.bind_some,Sum.elim_inl]
     rw [wrap_s j (by omega),if_pos (le_i (by omega)),tn]; rfl
    ·have g3':mkQ S j = false:=by simpa using g3
     rw [g3',if_pos (by decide),if_neg (by simp)]; rfl
  ·rw [if_neg g2,if_neg g2]
   have hl2:block_Entry_l2 n S n 0 = some ((0 + mk9 (S.drop 0):Nat):Int):=bEntry_l2 n S (by omega) n 0 (Nat.zero_le _) (by omega)
   rw [List.drop_zero,Nat.zero_add] at hl2
   rw [hl2]
   simp only [Option.bind_some]
   have hle:=mk9_le S
   by_cases g3:mk9 S = S.length
   ·rw [if_pos g3,if_pos (by rw [eq_i]; exact decide_eq_true g3)]; rfl
   ·rw [if_neg g3,if_neg (by rw [eq_i]; simpa using g3),if_pos (le_i hle),tn]
    obtain ⟨p1,_⟩:=plain_q n (S.take (mk9 S)) (by rw [List.length_take]; omega) (by omega)
    rw [p1]
    simp only [Option.bind_some]
    have hc3:(bif (!plainB (S.take (mk9 S))) then true else (S.take (mk9 S) == [60,60])) = (!plainB (S.take (mk9 S)) || S.take (mk9 S) == [60,60]):=by
     cases plainB (S.take (mk9 S)) <;> rfl
    rw [hc3]
    by_cases g4:(!plainB (S.take (mk9 S)) || S.take (mk9 S) == [60,60]) = true
    ·rw [if_pos g4,if_pos g4]; rfl
    ·rw [if_neg g4,if_neg g4]
     simp only [Option.bind_some,Sum.elim_inl]
     rw [wrap_s _ (by omega),if_pos (le_i (by omega)),tn]; rfl
theorem dropW_le (l:BS) (p:UInt8 → Bool):(l.dropWhile p).length ≤ l.length:=dropWhile_le p l
theorem ent_len (n:Nat) (s:BS) (hs:s.length ≤ 10000) (hn:300000 ≤ n):(entS n s).1.length ≤ s.length ∧ (entS n s).2.1.length ≤ s.length ∧ ((entS n s).2.2 = 0 ∨ (entS n s).2.2 = 1 ∨ (entS n s).2.2 = -1) ∧ ((entS n s).2.2 = 1 → s ≠ []):=by
 cases s with
 | nil=>exact ⟨Nat.le_refl _,Nat.le_refl _,.inl rfl,fun h=>(by cases h)⟩
 | cons c t =>
  unfold entS
  simp only
  split
  ·exact ⟨Nat.zero_le _,Nat.zero_le _,.inl rfl,fun _ h=>(by cases h)⟩
  split
  ·rename_i g2
   have hlen:0 < (c :: t).length:=by simp
   have hq:(c :: t)[0] = 34 ∨ (c :: t)[0] = 39:=by simpa using g2
   rcases Scan_tot n (c :: t) 0 (by omega) (by omega) hlen hq with q1 | ⟨k,j,q1,q2,q3,q4⟩
   ·have q1:quote_Scan n (c :: t) 0 = some ([],0,3):=q1
    rw [q1]
    exact ⟨Nat.zero_le _,Nat.zero_le _,.inl rfl,fun _ h=>(by cases h)⟩
   ·have q1:quote_Scan n (c :: t) 0 = some (k,(j:Int),0):=q1
    rw [q1]
    simp only
    split
    ·refine ⟨q4,?_,.inr (.inl rfl),fun _ h=>(by cases h)⟩
     have:=dropW_le ((c :: t).drop (Int.toNat (j:Int) + 1)) (· == 32)
     rw [List.length_drop] at this
     simp only; omega
    ·exact ⟨Nat.zero_le _,Nat.zero_le _,.inl rfl,fun _ h=>(by cases h)⟩
  split
  ·exact ⟨Nat.zero_le _,Nat.zero_le _,.inl rfl,fun _ h=>(by cases h)⟩
  split
  ·exact ⟨Nat.zero_le _,Nat.zero_le _,.inr (.inr rfl),fun _ h=>(by cases h)⟩
  ·refine ⟨by rw [List.length_take]; omega,?_,.inr (.inl rfl),fun _ h=>(by cases h)⟩
   have:=dropW_le ((c :: t).drop (mk9 (c :: t) + 1)) (· == 32)
   rw [List.length_drop] at this
   simp only; omega
def valS (n:Nat) (s:BS):Nd × Int :=
 match s with
 | []=>(Z8,0)
 | c :: _=>if (c == 91 || c == 123) = true then (flow_Parse n s).getD (Z8,3) else (flow_Scalar n s false).getD (Z8,3)
theorem bfail (no e:Int) (h:S_block_reader) (h0:h.f_e = 0):block_reader_fail__o0_s2 no e h = (Z8,S_block_reader.mk h.f_l h.f_at no e):=by
 unfold block_reader_fail__o0_s2 block_reader_fail__o0_s2_j1
 rw [h0]; rfl
theorem bvalue (n:Nat) (no:Int) (s:BS) (h:S_block_reader) (h0:h.f_e = 0) (hsc:∃ x e,flow_Scalar n s false = some (x,e)) (hp:∃ x e,flow_Parse n s = some (x,e)) :
  block_reader_value__o0 n no s h = some (if (valS n s).2 = 0 then ((valS n s).1,h) else (Z8,S_block_reader.mk h.f_l h.f_at no (valS n s).2)):=by
 obtain ⟨x,e,hx⟩:=hsc
 obtain ⟨y,f,hy⟩:=hp
 unfold block_reader_value__o0
 have hend:∀ (w:Nd) (g:Int),(if (g != 0) = true then (lett (block_reader_fail__o0_s2 no g h) fun r4=>some (r4.1,r4.2)) else (some (w,h))) = some (if g = 0 then (w,h) else (Z8,S_block_reader.mk h.f_l h.f_at no g)):=by
  intro w g
  by_cases hg:g = 0
  ·rw [if_neg (by rw [hg]; decide),if_pos hg]
  ·rw [if_pos (by simpa using hg),if_neg hg,bfail no g h h0]; rfl
 rw [hx]
 simp only [Option.bind_some]
 cases s with
 | nil =>
  have hx0:flow_Scalar n [] false = some (Z8,0):=rfl
  rw [hx0] at hx
  cases hx
  rfl
 | cons c t =>
  generalize hS:c :: t = S at hx hy ⊢
  have hlen:0 < S.length:=by rw [← hS]; simp
  have h0':S[0] = c:=by subst hS; rfl
  have e1:(S == []) = false:=by rw [← hS]; rfl
  have z0:decide (0 ≤ (0:Int) ∧ (0:Int) < (List.length S:Int)) = true:=in_i hlen
  have z1:(S[Int.toNat 0]?.getD 0) = S[0]:=at_i hlen
  have hval:valS n S = if (c == 91 || c == 123) = true then (flow_Parse n S).getD (Z8,3) else (flow_Scalar n S false).getD (Z8,3):=by subst hS; rfl
  rw [e1,z0,z1,h0',Bool.or_true,Bool.or_true,if_pos rfl,if_pos rfl]
  simp only [lett]
  have hc1:(bif (!false) then (bif ((c.toNat:Int) == 91) then true else ((c.toNat:Int) == 123)) else false) = (c == 91 || c == 123):=by
   rw [show ((c.toNat:Int) == 91) = (c == 91) from beq_bytes c 91,show ((c.toNat:Int) == 123) = (c == 123) from beq_bytes c 123]
   cases (c == 91) <;> rfl
  rw [hc1,hval]
  unfold block_reader_value__o0_j1
  by_cases g:(c == 91 || c == 123) = true
  ·rw [if_pos g,if_pos g,hy]
   simp only [Option.bind_some,Option.getD_some]
   exact hend y f
  ·rw [if_neg g,if_neg g,hx]
   simp only [Option.bind_some,Option.getD_some]
   exact hend x e
abbrev Rs:=Sum (Int × Int) (Nd × List Ln)
def inS (B:List Ln → Rs) (ind:Int) (beside:Bool) (ls:List Ln):Rs :=
 match ls with
 | []=>.inr (Z8,[])
 | x :: r=>if ind < x.f_Indent ∨ (beside = true ∧ x.f_Indent = ind ∧ rowQ x.f_Text = true) then B (x :: r) else .inr (Z8,x :: r)
def cutS (x:Ln):Ln:=S_line_Line.mk x.f_No (x.f_Indent + (x.f_Text.length:Int) - (((x.f_Text.drop 1).dropWhile (· == 32)).length:Int)) ((x.f_Text.drop 1).dropWhile (· == 32))
def valR (n:Nat) (no:Int) (s:BS) (r:List Ln):Rs:=if (valS n s).2 = 0 then .inr ((valS n s).1,r) else .inl (no,(valS n s).2)
def rowKid (B:List Ln → Rs) (ind:Int) (x:Ln) (r:List Ln):Rs:=if x.f_Text = [45] then inS B ind false r else B (cutS x :: r)
def rowL (B:List Ln → Rs) (ind:Int):Nat → List Nd → List Ln → Rs
 | 0,_,_=>.inl (0,3)
 | _ + 1,acc,[]=>.inr (S_api_Node.mk 2 [] [] acc,[])
 | k + 1,acc,x :: r =>
  if ind < x.f_Indent then .inl (x.f_No,3)
  else if x.f_Indent < ind ∨ rowQ x.f_Text = false then .inr (S_api_Node.mk 2 [] [] acc,x :: r)
  else match rowKid B ind x r with
   | .inl e=>.inl e
   | .inr (v,rest)=>rowL B ind k (acc ++ [v]) rest
def pairKid (n:Nat) (B:List Ln → Rs) (ind:Int) (x:Ln) (rest:BS) (r:List Ln):Rs:=if rest ≠ [] then valR n x.f_No rest r else inS B ind true r
def pairL (n:Nat) (B:List Ln → Rs) (ind:Int):Nat → List BS → List Nd → List Ln → Rs
 | 0,_,_,_=>.inl (0,3)
 | _ + 1,ks,acc,[]=>.inr (S_api_Node.mk 3 [] ks acc,[])
 | k + 1,ks,acc,x :: r =>
  if ind < x.f_Indent ∨ (x.f_Indent = ind ∧ ((entS n x.f_Text).2.2 < 0 ∨ (0 < (entS n x.f_Text).2.2 ∧ (entS n x.f_Text).1 ∈ ks))) then .inl (x.f_No,3)
  else if x.f_Indent < ind ∨ (entS n x.f_Text).2.2 = 0 then .inr (S_api_Node.mk 3 [] ks acc,x :: r)
  else match pairKid n B ind x (entS n x.f_Text).2.1 r with
   | .inl e=>.inl e
   | .inr (v,rest)=>pairL n B ind k (ks ++ [(entS n x.f_Text).1]) (acc ++ [v]) rest
def blkS:Nat → List Ln → Rs
 | 0,_=>.inl (0,3)
 | _ + 1,[]=>.inl (0,3)
 | n + 1,x :: r =>
  if rowQ x.f_Text = true then rowL (blkS n) x.f_Indent n [] (x :: r)
  else if 0 < (entS n x.f_Text).2.2 then pairL n (blkS n) x.f_Indent n [] [] (x :: r)
  else if (entS n x.f_Text).2.2 < 0 then .inl (x.f_No,3)
  else valR n x.f_No x.f_Text r
def mu:List Ln → Nat
 | []=>0
 | x :: r=>x.f_Text.length + 1 + mu r
theorem len_mu:∀ l:List Ln,l.length ≤ mu l
 | []=>Nat.le_refl 0
 | x :: r=>by have:=len_mu r; rw [List.length_cons]; unfold mu; omega
theorem mu_suffix {a b:List Ln} (h:a <:+ b):mu a ≤ mu b:=by
 obtain ⟨p,rfl⟩:=h
 induction p with
 | nil=>exact Nat.le_refl _
 | cons x p ih=>rw [List.cons_append]; show _ ≤ _ + 1 + mu (p ++ a); omega
def LnOk (x:Ln):Prop:=0 ≤ x.f_Indent ∧ x.f_Indent + (x.f_Text.length:Int) ≤ 10000
def LsOk (l:List Ln):Prop:=l.length ≤ 10000 ∧ ∀ x ∈ l,LnOk x
theorem LsOk.suffix {a b:List Ln} (h:LsOk b) (hs:a <:+ b):LsOk a:=⟨Nat.le_trans hs.length_le h.1,fun x hx=>h.2 x (hs.mem hx)⟩
theorem cut_ok {x:Ln} (h:LnOk x):LnOk (cutS x):=by
 obtain ⟨h1,h2⟩:=h
 have h3:=dropW_le (x.f_Text.drop 1) (· == 32)
 rw [List.length_drop] at h3
 unfold cutS LnOk
 simp only
 omega
theorem cut_mu {x:Ln} {r:List Ln} (h:x.f_Text ≠ []):mu (cutS x :: r) < mu (x :: r):=by
 have h3:=dropW_le (x.f_Text.drop 1) (· == 32)
 rw [List.length_drop] at h3
 have h4:0 < x.f_Text.length:=List.length_pos_iff.2 h
 unfold mu cutS
 simp only
 omega
theorem rowQ_ne {s:BS} (h:rowQ s = true):s ≠ []:=by rintro rfl; cases h
def GoodR' (ls:List Ln) (o:Rs):Prop:=∀ v rest,o = .inr (v,rest) → Red 10000 v ∧ rest <:+ ls.tail
theorem Red.mono {a b:Nat} {v:Nd} (h:Red a v) (hab:a ≤ b):Red b v:=fun d=>⟨(h d).1,(h d).2.mono hab⟩
theorem inS_good {B:List Ln → Rs} {ind:Int} {b:Bool} {r:List Ln} (hB:∀ ls,ls <:+ r → GoodR' ls (B ls)) {v:Nd} {rest:List Ln} (h:inS B ind b r = .inr (v,rest)):Red 10000 v ∧ rest <:+ r:=by
 cases r with
 | nil=>cases h; exact ⟨Red.null,List.suffix_refl _⟩
 | cons x r =>
  unfold inS at h
  simp only at h
  split at h
  ·obtain ⟨h1,h2⟩:=hB _ (List.suffix_refl _) v rest h
   exact ⟨h1,h2.trans (List.suffix_cons x r)⟩
  ·cases h; exact ⟨Red.null,List.suffix_refl _⟩
theorem mu_tail {ls r:List Ln} {x:Ln} (h:ls <:+ r):mu ls < mu (x :: r):=by
 have:=mu_suffix h
 have:mu (x :: r) = x.f_Text.length + 1 + mu r:=rfl
 omega
theorem ok_cut {x:Ln} {r:List Ln} (hok:LsOk (x :: r)):LsOk (cutS x :: r):=⟨by simpa using hok.1,fun y hy=>by
 rcases List.mem_cons.1 hy with rfl | hy
 ·exact cut_ok (hok.2 x List.mem_cons_self)
 ·exact hok.2 y (List.mem_cons_of_mem _ hy)⟩
theorem LsOk.text {x:Ln} {r:List Ln} (hok:LsOk (x :: r)):x.f_Text.length ≤ 10000:=by
 have hx:=hok.2 x List.mem_cons_self
 have:=hx.1; have:=hx.2; omega
theorem rowKid_good {B:List Ln → Rs} {ind:Int} {M:Nat} (hB:∀ ls,LsOk ls → mu ls < M → GoodR' ls (B ls)) {x:Ln} {r:List Ln} (hok:LsOk (x :: r)) (hq:rowQ x.f_Text = true) (hM:mu (x :: r) ≤ M) {v:Nd} {rest:List Ln} (hk:rowKid B ind x r = .inr (v,rest)):Red 10000 v ∧ rest <:+ r:=by
 have hokr:LsOk r:=hok.suffix (List.suffix_cons x r)
 unfold rowKid at hk
 split at hk
 ·exact inS_good (fun ls hs=>hB ls (hokr.suffix hs) (Nat.lt_of_lt_of_le (mu_tail hs) hM)) hk
 ·exact hB (cutS x :: r) (ok_cut hok) (Nat.lt_of_lt_of_le (cut_mu (rowQ_ne hq)) hM) v rest hk
theorem rowL_good {B:List Ln → Rs} {ind:Int} {M:Nat} (hB:∀ ls,LsOk ls → mu ls < M → GoodR' ls (B ls)):∀ (k:Nat) (acc:List Nd) (ls:List Ln),LsOk ls → mu ls ≤ M → acc.length + ls.length ≤ 20000 → (∀ x ∈ acc,Red 10000 x) → ∀ v rest,rowL B ind k acc ls = .inr (v,rest) → Red 10000 v ∧ rest <:+ ls
 | 0,_,_,_,_,_,_,_,_,h=>by cases h
 | k + 1,acc,[],_,_,hl,ha,v,rest,h=>by
  cases h
  exact ⟨Red.node (by simp at hl; omega) (by simp) (fun k hk=>by cases hk) ha,List.suffix_refl _⟩
 | k + 1,acc,x :: r,hok,hM,hl,ha,v,rest,h=>by
  unfold rowL at h
  split at h
  ·cases h
  split at h
  ·cases h
   exact ⟨Red.node (by simp at hl; omega) (by simp) (fun k hk=>by cases hk) ha,List.suffix_refl _⟩
  rename_i hq
  have hq:rowQ x.f_Text = true:=by
   cases hc:rowQ x.f_Text with
   | true=>rfl
   | false=>exact (hq (.inr hc)).elim
  split at h
  ·cases h
  ·rename_i v' rest' hk
   have hkid:=rowKid_good hB hok hq hM hk
   have hlr:=hkid.2.length_le
   have hmu:=mu_tail (x:=x) hkid.2
   obtain ⟨g1,g2⟩:=rowL_good hB k (acc ++ [v']) rest' (hok.suffix (hkid.2.trans (List.suffix_cons x r))) (by omega) (by simp at hl ⊢; omega) (fun y hy=>by
    rcases List.mem_append.1 hy with hy | hy
    ·exact ha y hy
    ·rw [List.mem_singleton] at hy; subst hy; exact hkid.1) v rest h
   exact ⟨g1,g2.trans (hkid.2.trans (List.suffix_cons x r))⟩
theorem pairKid_good {n:Nat} (hV:∀ s:BS,s.length ≤ 10000 → Red 10000 (valS n s).1) {B:List Ln → Rs} {ind:Int} {M:Nat} (hB:∀ ls,LsOk ls → mu ls < M → GoodR' ls (B ls)) {x:Ln} {s:BS} {r:List Ln} (hs:s.length ≤ 10000) (hok:LsOk (x :: r)) (hM:mu (x :: r) ≤ M) {v:Nd} {rest:List Ln} (hk:pairKid n B ind x s r = .inr (v,rest)):Red 10000 v ∧ rest <:+ r:=by
 have hokr:LsOk r:=hok.suffix (List.suffix_cons x r)
 unfold pairKid at hk
 split at hk
 ·unfold valR at hk
  split at hk
  ·cases hk
   exact ⟨hV _ hs,List.suffix_refl _⟩
  ·cases hk
 ·exact inS_good (fun ls hs=>hB ls (hokr.suffix hs) (Nat.lt_of_lt_of_le (mu_tail hs) hM)) hk
theorem pairL_good {n:Nat} (hn:300000 ≤ n) (hV:∀ s:BS,s.length ≤ 10000 → Red 10000 (valS n s).1) {B:List Ln → Rs} {ind:Int} {M:Nat} (hB:∀ ls,LsOk ls → mu ls < M → GoodR' ls (B ls)):∀ (k:Nat) (ks:List BS) (acc:List Nd) (ls:List Ln),LsOk ls → mu ls ≤ M → acc.length + ls.length ≤ 20000 → ks.length + ls.length ≤ 20000 → (∀ x ∈ acc,Red 10000 x) → (∀ x ∈ ks,x.length ≤ 10000) → ∀ v rest,pairL n B ind k ks acc ls = .inr (v,rest) → Red 10000 v ∧ rest <:+ ls
 | 0,_,_,_,_,_,_,_,_,_,_,_,h=>by cases h
 | k + 1,ks,acc,[],_,_,hl,hl2,ha,hk,v,rest,h=>by
  cases h
  exact ⟨Red.node (by simp at hl; omega) (by simp at hl2; omega) hk ha,List.suffix_refl _⟩
 | k + 1,ks,acc,x :: r,hok,hM,hl,hl2,ha,hk,v,rest,h=>by
  unfold pairL at h
  split at h
  ·cases h
  split at h
  ·cases h
   exact ⟨Red.node (by simp at hl; omega) (by simp at hl2; omega) hk ha,List.suffix_refl _⟩
  have hxt:=hok.text
  obtain ⟨e1,e2,_,_⟩:=ent_len n x.f_Text hxt hn
  split at h
  ·cases h
  ·rename_i v' rest' hk'
   have hkid:=pairKid_good hV hB (Nat.le_trans e2 hxt) hok hM hk'
   have hlr:=hkid.2.length_le
   have hmu:=mu_tail (x:=x) hkid.2
   obtain ⟨g1,g2⟩:=pairL_good hn hV hB k _ (acc ++ [v']) rest' (hok.suffix (hkid.2.trans (List.suffix_cons x r))) (by omega) (by simp at hl ⊢; omega) (by simp at hl2 ⊢; omega) (fun y hy=>by
    rcases List.mem_append.1 hy with hy | hy
    ·exact ha y hy
    ·rw [List.mem_singleton] at hy; subst hy; exact hkid.1) (fun y hy=>by
    rcases List.mem_append.1 hy with hy | hy
    ·exact hk y hy
    ·rw [List.mem_singleton] at hy; subst hy; omega) v rest h
   exact ⟨g1,g2.trans (hkid.2.trans (List.suffix_cons x r))⟩
theorem blkS_good (hV:∀ (n:Nat) (s:BS),400000 ≤ n → s.length ≤ 10000 → Red 10000 (valS n s).1):∀ (n:Nat) (ls:List Ln),LsOk ls → mu ls + 400000 < n → GoodR' ls (blkS n ls)
 | 0,_,_,h=>by omega
 | n + 1,[],_,_=>by intro v rest h; cases h
 | n + 1,x :: r,hok,hn=>by
  intro v rest h
  have hxt:=hok.text
  have hB:∀ ls,LsOk ls → mu ls < mu (x :: r) → GoodR' ls (blkS n ls):=fun ls h1 h2=>blkS_good hV n ls h1 (by omega)
  have hl:=hok.1
  rw [List.length_cons] at hl
  obtain ⟨m,hm⟩:∃ m,n = m + 1:=⟨n - 1,by omega⟩
  have hokr:LsOk r:=hok.suffix (List.suffix_cons x r)
  rw [List.tail_cons]
  unfold blkS at h
  split at h
  ·rename_i hq
   rw [show rowL (blkS n) x.f_Indent n [] (x :: r) = rowL (blkS n) x.f_Indent (m + 1) [] (x :: r) by rw [← hm]] at h
   unfold rowL at h
   rw [if_neg (by omega),if_neg (by
    rintro (h | h)
    ·omega
    ·rw [hq] at h; cases h)] at h
   split at h
   ·cases h
   ·rename_i v' rest' hk
    have hkid:=rowKid_good hB hok hq (Nat.le_refl _) hk
    have hlr:=hkid.2.length_le
    have hmu:=mu_tail (x:=x) hkid.2
    obtain ⟨g1,g2⟩:=rowL_good hB m ([] ++ [v']) rest' (hokr.suffix hkid.2) (by omega) (by simp; omega) (fun y hy=>by
     rw [List.nil_append,List.mem_singleton] at hy; subst hy; exact hkid.1) v rest h
    exact ⟨g1,g2.trans hkid.2⟩
  ·split at h
   ·rename_i hq hp
    rw [show pairL n (blkS n) x.f_Indent n [] [] (x :: r) = pairL n (blkS n) x.f_Indent (m + 1) [] [] (x :: r) by rw [← hm]] at h
    unfold pairL at h
    rw [if_neg (by
     rintro (h | ⟨_,h | ⟨_,h⟩⟩)
     ·omega
     ·omega
     ·cases h),if_neg (by rintro (h | h) <;> omega)] at h
    obtain ⟨e1,e2,_,_⟩:=ent_len n x.f_Text hxt (by omega)
    split at h
    ·cases h
    ·rename_i v' rest' hk
     have hkid:=pairKid_good (fun s hs=>hV n s (by omega) hs) hB (Nat.le_trans e2 hxt) hok (Nat.le_refl _) hk
     have hlr:=hkid.2.length_le
     have hmu:=mu_tail (x:=x) hkid.2
     obtain ⟨g1,g2⟩:=pairL_good (by omega) (fun s hs=>hV n s (by omega) hs) hB m _ ([] ++ [v']) rest' (hokr.suffix hkid.2) (by omega) (by simp; omega) (by simp; omega) (fun y hy=>by
      rw [List.nil_append,List.mem_singleton] at hy; subst hy; exact hkid.1) (fun y hy=>by
      rw [List.nil_append,List.mem_singleton] at hy; subst hy; omega) v rest h
     exact ⟨g1,g2.trans hkid.2⟩
   ·split at h
    ·cases h
    ·unfold valR at h
     split at h
     ·cases h
      exact ⟨hV n _ (by omega) hxt,List.suffix_refl _⟩
     ·cases h
theorem inS_err {B:List Ln → Rs} (hB:∀ ls e,B ls = .inl e → e.2 ≠ 0) {ind:Int} {b:Bool} {r:List Ln} {e:Int × Int} (h:inS B ind b r = .inl e):e.2 ≠ 0:=by
 cases r with
 | nil=>cases h
 | cons x r =>
  unfold inS at h
  simp only at h
  split at h
  ·exact hB _ e h
  ·cases h
theorem valR_err {n:Nat} {no:Int} {s:BS} {r:List Ln} {e:Int × Int} (h:valR n no s r = .inl e):e.2 ≠ 0:=by
 unfold valR at h
 split at h
 ·cases h
 ·rename_i hv
  cases h
  exact hv
theorem rowL_err {B:List Ln → Rs} (hB:∀ ls e,B ls = .inl e → e.2 ≠ 0) {ind:Int}:∀ (k:Nat) (acc:List Nd) (ls:List Ln) (e:Int × Int),rowL B ind k acc ls = .inl e → e.2 ≠ 0
 | 0,_,_,_,h=>by cases h; decide
 | k + 1,acc,[],e,h=>by cases h
 | k + 1,acc,x :: r,e,h=>by
  unfold rowL at h
  split at h
  ·cases h; exact (by decide:(3:Int) ≠ 0)
  split at h
  ·cases h
  split at h
  ·rename_i e' hk
   cases h
   unfold rowKid at hk
   split at hk
   ·exact inS_err hB hk
   ·exact hB _ _ hk
  ·exact rowL_err hB k _ _ e h
theorem pairL_err {n:Nat} {B:List Ln → Rs} (hB:∀ ls e,B ls = .inl e → e.2 ≠ 0) {ind:Int}:∀ (k:Nat) (ks:List BS) (acc:List Nd) (ls:List Ln) (e:Int × Int),pairL n B ind k ks acc ls = .inl e → e.2 ≠ 0
 | 0,_,_,_,_,h=>by cases h; decide
 | k + 1,ks,acc,[],e,h=>by cases h
 | k + 1,ks,acc,x :: r,e,h=>by
  unfold pairL at h
  split at h
  ·cases h; exact (by decide:(3:Int) ≠ 0)
  split at h
  ·cases h
  split at h
  ·rename_i e' hk
   cases h
   unfold pairKid at hk
   split at hk
   ·exact valR_err hk
   ·exact inS_err hB hk
  ·exact pairL_err hB k _ _ _ e h
theorem blkS_err:∀ (n:Nat) (ls:List Ln) (e:Int × Int),blkS n ls = .inl e → e.2 ≠ 0
 | 0,_,_,h=>by cases h; decide
 | n + 1,[],_,h=>by cases h; decide
 | n + 1,x :: r,e,h=>by
  unfold blkS at h
  split at h
  ·exact rowL_err (blkS_err n) _ _ _ e h
  split at h
  ·exact pairL_err (blkS_err n) _ _ _ _ e h
  split at h
  ·cases h; exact (by decide:(3:Int) ≠ 0)
  ·exact valR_err h
def PR (len at0:Nat) (o:Rs) (p:Nd × S_block_reader):Prop :=
 match o with
 | .inl e=>e.2 ≠ 0 ∧ p.2.f_e = e.2 ∧ p.2.f_no = e.1
 | .inr w=>p.1 = w.1 ∧ p.2.f_e = 0 ∧ p.2.f_l.length = len ∧ ∃ at':Nat,p.2.f_at = (at':Int) ∧ at' ≤ len ∧ p.2.f_l.drop at' = w.2 ∧ at0 ≤ at'
theorem PR.mono {len a b:Nat} {o:Rs} {p:Nd × S_block_reader} (h:PR len b o p) (hab:a ≤ b):PR len a o p:=by
 unfold PR at h ⊢
 cases o with
 | inl e=>exact h
 | inr w =>
  obtain ⟨h1,h2,h3,at',h4,h5,h6,h7⟩:=h
  exact ⟨h1,h2,h3,at',h4,h5,h6,by omega⟩
abbrev Rb:=S_block_reader → Option (Nd × S_block_reader)
def BlkR (R:Rb) (B:List Ln → Rs) (M:Nat):Prop:=∀ (l:List Ln) (a:Nat) (no:Int),a < l.length → l.length ≤ 100000 → LsOk (l.drop a) → mu (l.drop a) < M → ∃ p,R (S_block_reader.mk l (a:Int) no 0) = some p ∧ PR l.length a (B (l.drop a)) p
theorem binner (R:Rb) (B:List Ln → Rs) (M:Nat) (hB:BlkR R B M) (n:Nat) (ind:Int) (b:Bool) (l:List Ln) (a:Nat) (no:Int) (ha:a ≤ l.length) (hl:l.length ≤ 100000) (hok:LsOk (l.drop a)) (hM:mu (l.drop a) < M) :
  ∃ p,block_reader_inner__o0_s2 R n ind b (S_block_reader.mk l (a:Int) no 0) = some p ∧ PR l.length a (inS B ind b (l.drop a)) p:=by
 unfold block_reader_inner__o0_s2 block_reader_more__o0_s2
 by_cases h:a < l.length
 ·have e0:((a:Int) == (l.length:Int)) = false:=by rw [eq_i]; exact decide_eq_false (by omega)
  have hR:=hB l a no h hl hok hM
  rw [drop_at h] at hR ⊢
  simp only
  rw [e0,if_neg (by decide),if_pos (in_i h),at_i h]
  simp only [Option.bind_some,lett]
  rw [e0,bRow]
  have hc:(bif (!(decide (l[a].f_Indent > ind))) then (bif (bif (bif (bif (!b) then true else ((0:Int) != 0)) then true else false) then true else (l[a].f_Indent != ind)) then true else (!(rowQ l[a].f_Text))) else false) = !decide (ind < l[a].f_Indent ∨ (b = true ∧ l[a].f_Indent = ind ∧ rowQ l[a].f_Text = true)):=by
   by_cases c1:ind < l[a].f_Indent
   ·rw [decide_eq_true (show l[a].f_Indent > ind from c1),decide_eq_true (.inl c1)]; rfl
   ·rw [decide_eq_false (show ¬ l[a].f_Indent > ind from c1)]
    by_cases c2:l[a].f_Indent = ind
    ·have:(l[a].f_Indent != ind) = false:=by simpa using c2
     rw [this]
     cases b with
     | false =>
      rw [decide_eq_false (by rintro (h | h); exact c1 h; exact absurd h.1 (by decide))]; rfl
     | true =>
      cases hq:rowQ l[a].f_Text with
      | false=>rw [decide_eq_false (by rintro (h | h); exact c1 h; exact absurd h.2.2 (by decide))]; rfl
      | true=>rw [decide_eq_true (.inr ⟨rfl,c2,rfl⟩)]; rfl
    ·have:(l[a].f_Indent != ind) = true:=by simpa using c2
     rw [this,decide_eq_false (by rintro (h | h); exact c1 h; exact c2 h.2.1)]
     cases b <;> rfl
  rw [hc]
  unfold inS
  simp only
  by_cases c:ind < l[a].f_Indent ∨ (b = true ∧ l[a].f_Indent = ind ∧ rowQ l[a].f_Text = true)
  ·rw [decide_eq_true c,if_neg (by decide),if_pos c]
   obtain ⟨p,h1,h2⟩:=hR
   rw [h1]
   exact ⟨p,rfl,h2⟩
  ·rw [decide_eq_false c,if_pos (by decide),if_neg c]
   exact ⟨_,rfl,rfl,rfl,rfl,a,rfl,by omega,drop_at h,Nat.le_refl _⟩
 ·have e0:((a:Int) == (l.length:Int)) = true:=by rw [eq_i]; exact decide_eq_true (by omega)
  have hd:l.drop a = []:=List.drop_eq_nil_of_le (by omega)
  rw [hd]
  simp only
  rw [e0,if_pos (by decide)]
  simp only [Option.bind_some,lett]
  rw [e0]
  cases b
  ·exact ⟨_,rfl,rfl,rfl,rfl,a,rfl,by omega,hd,Nat.le_refl _⟩
  ·exact ⟨_,rfl,rfl,rfl,rfl,a,rfl,by omega,hd,Nat.le_refl _⟩
theorem bcut (n:Nat) (x:Ln) (hx:LnOk x) (hne:x.f_Text ≠ []):line_Cut n x 1 = some (cutS x):=by
 unfold line_Cut cutS
 have hlen:0 < x.f_Text.length:=List.length_pos_iff.2 hne
 have hd:=dropW_le (x.f_Text.drop 1) (· == 32)
 rw [List.length_drop] at hd
 obtain ⟨h1,h2⟩:=hx
 rw [show decide ((1:Int) < 0) = false from rfl,decide_eq_false (show ¬ (1:Int) > (x.f_Text.length:Int) by omega),if_neg (by decide),if_pos (decide_eq_true (by omega))]
 simp only [lett]
 have ht:Lib.trimLeftB (List.drop (Int.toNat 1) x.f_Text) 32 = (x.f_Text.drop 1).dropWhile (· == 32):=rfl
 rw [ht,wrap_id (x.f_Indent + (x.f_Text.length:Int)) (by omega) (by omega),wrap_id _ (by omega) (by omega)]
def fin3 (o:Sum (Nd × Nd × S_block_reader) (Nd × S_block_reader)):Nd × S_block_reader:=Sum.elim (fun o=>(o.2.1,o.2.2)) (fun o=>(o.1,o.2)) o
theorem set_drop {l:List Ln} {a:Nat} (h:a < l.length) (y:Ln):(l.set a y).drop a = y :: l.drop (a + 1):=by
 rw [List.drop_eq_getElem_cons (by rw [List.length_set]; exact h),List.getElem_set_self,List.drop_set_of_lt (by omega)]
theorem brow_stop (R:Rb) (n k:Nat) (ind:Int) (z v:Nd) (h:S_block_reader) (he:h.f_e ≠ 0):block_reader_row__o0_s2_l1 R n ind (k + 1) z v h = some (.inl (z,v,h)):=by
 have:(h.f_e == 0) = false:=by simpa using he
 rw [block_reader_row__o0_s2_l1,this]; rfl
theorem brow_l (R:Rb) (B:List Ln → Rs) (M:Nat) (hB:BlkR R B M) (hG:∀ ls,LsOk ls → mu ls < M → GoodR' ls (B ls)) (n:Nat) (ind:Int):∀ (k:Nat) (l:List Ln) (a:Nat) (no:Int) (z:Nd) (acc:List Nd),a ≤ l.length → l.length ≤ 100000 → LsOk (l.drop a) → mu (l.drop a) ≤ M → l.length - a < k → acc.length + (l.length - a) ≤ 200000 →
  ∃ o,block_reader_row__o0_s2_l1 R n ind k z (S_api_Node.mk 2 [] [] acc) (S_block_reader.mk l (a:Int) no 0) = some o ∧ PR l.length a (rowL B ind k acc (l.drop a)) (fin3 o)
 | 0,_,_,_,_,_,_,_,_,_,h,_=>by omega
 | k + 1,l,a,no,z,acc,ha,hl,hok,hM,hk,hc=>by
  rw [block_reader_row__o0_s2_l1]
  by_cases h:a < l.length
  ·have hd:=drop_at h
   generalize hx:l[a] = x at hd
   rw [hd] at hok hM ⊢
   have hxok:=hok.2 x List.mem_cons_self
   have hokr:LsOk (l.drop (a + 1)):=hok.suffix (List.suffix_cons x _)
   simp only
   rw [lt_i h,if_pos (by rfl),if_pos (in_i h),at_i h,hx]
   unfold rowL
   by_cases c1:ind < x.f_Indent
   ·rw [if_pos (decide_eq_true c1),if_pos c1,bfail _ _ _ rfl]
    exact ⟨_,rfl,show (3:Int) ≠ 0 by decide,rfl,rfl⟩
   rw [if_neg (by simpa using c1),if_neg c1]
   simp only [lett]
   rw [bRow]
   by_cases c2:x.f_Indent < ind ∨ rowQ x.f_Text = false
   ·rw [if_pos c2,if_pos (by
     rcases c2 with c | c
     ·rw [decide_eq_true c]; rfl
     ·rw [c]; cases decide (x.f_Indent < ind) <;> rfl)]
    refine ⟨_,rfl,rfl,rfl,rfl,a,rfl,ha,hd,Nat.le_refl _⟩
   have hq:rowQ x.f_Text = true:=by
    cases hq:rowQ x.f_Text with
    | true=>rfl
    | false=>exact (c2 (.inr hq)).elim
   rw [if_neg c2,if_neg (by rw [decide_eq_false (fun h=>c2 (.inl h)),hq]; decide)]
   have hkid:∀ v rest,rowKid B ind x (l.drop (a + 1)) = .inr (v,rest) → rest <:+ l.drop (a + 1):=fun v rest hk=>(rowKid_good hG hok hq hM hk).2
   have hnext:∀ (l2:List Ln) (p:Nd × S_block_reader),l2.length = l.length → PR l2.length a (rowKid B ind x (l.drop (a + 1))) p →
     ∃ o,(if (decide ((List.length acc + List.length ([p.1]:List Nd)) * (72 + 1) ≤ limit)) = true then (block_reader_row__o0_s2_l1 R n ind k z (S_api_Node.mk 2 [] [] (acc ++ ([p.1]:List Nd))) p.2) else none) = some o ∧
      PR l.length a (match rowKid B ind x (l.drop (a + 1)) with
       | .inl e=>.inl e
       | .inr (v,rest)=>rowL B ind k (acc ++ [v]) rest) (fin3 o):=by
    intro l2 p hl2 hp
    rw [if_pos (decide_eq_true (by show (acc.length + 1) * (72 + 1) ≤ 140737488355328; omega))]
    cases hr:rowKid B ind x (l.drop (a + 1)) with
    | inl e =>
     rw [hr] at hp
     obtain ⟨h1,h2,h3⟩:=hp
     obtain ⟨k',rfl⟩:∃ k',k = k' + 1:=⟨k - 1,by omega⟩
     rw [brow_stop R n k' ind z _ p.2 (by rw [h2]; exact h1)]
     exact ⟨_,rfl,h1,h2,h3⟩
    | inr w =>
     obtain ⟨v,rest⟩:=w
     have hsuf:=hkid v rest hr
     rw [hr] at hp
     obtain ⟨h1,h2,h3,a',h4,h5,h6,h7⟩:=hp
     obtain ⟨v',⟨l',at',no',e'⟩⟩:=p
     simp only at h1 h2 h3 h4 h6
     subst h1 h2 h4 h6
     have hlen:=hsuf.length_le
     rw [List.length_drop,List.length_drop] at hlen
     have hmu:=mu_tail (x:=x) hsuf
     obtain ⟨o,g1,g2⟩:=brow_l R B M hB hG n ind k l' a' no' z (acc ++ [v']) (by omega) (by omega) (hokr.suffix hsuf) (by omega) (by omega) (by simp; omega)
     exact ⟨o,g1,by rw [h3,hl2] at g2; exact g2.mono h7⟩
   by_cases c3:x.f_Text = [45]
   ·rw [if_pos (by rw [c3]; rfl),wrap_s a (by omega)]
    have hmu:mu (x :: l.drop (a + 1)) = x.f_Text.length + 1 + mu (l.drop (a + 1)):=rfl
    obtain ⟨p,h1,h2⟩:=binner R B M hB n ind false l (a + 1) no (by omega) hl hokr (by omega)
    rw [h1]
    simp only [Option.bind_some]
    refine hnext l p rfl ?_
    unfold rowKid
    rw [if_pos c3]
    exact h2.mono (by omega)
   ·have hcut:=cut_mu (x:=x) (r:=l.drop (a + 1)) (rowQ_ne hq)
    rw [if_neg (by simpa using c3),bcut n x hxok (rowQ_ne hq)]
    simp only [Option.bind_some]
    rw [if_pos (in_i h),tn]
    have hset:=set_drop h (cutS x)
    obtain ⟨p,h1,h2⟩:=hB (l.set a (cutS x)) a no (by rw [List.length_set]; exact h) (by rw [List.length_set]; exact hl) (by rw [hset]; exact ok_cut hok) (by rw [hset]; omega)
    rw [hset] at h2
    rw [h1]
    simp only [Option.bind_some]
    refine hnext (l.set a (cutS x)) p (List.length_set ..) ?_
    unfold rowKid
    rw [if_neg c3]
    exact h2
  ·have hd:l.drop a = []:=List.drop_eq_nil_of_le (by omega)
   simp only
   rw [hd,nlt_i (by omega),if_neg (by decide)]
   unfold rowL
   exact ⟨_,rfl,rfl,rfl,rfl,a,rfl,ha,hd,Nat.le_refl _⟩
theorem ix_l (n:Nat) (l:List BS) (x:BS) (hl:l.length ≤ 100000):∀ (k i:Nat),i ≤ l.length → l.length - i < k → ∃ r,slices_Index_string_string_l1 n l x (l.length:Int) k (i:Int) = some r ∧ (match r with | .inl _=>x ∉ l.drop i | .inr j=>0 ≤ j ∧ x ∈ l.drop i)
 | 0,i,_,h=>by omega
 | k + 1,i,h1,h2=>by
  rw [slices_Index_string_string_l1]
  by_cases h:i < l.length
  ·rw [lt_i h,if_pos rfl,in_i h,if_pos rfl,at_i h,drop_at h]
   by_cases c:x = l[i]
   ·rw [if_pos (by rw [c]; exact beq_self_eq_true _)]
    exact ⟨_,rfl,Int.natCast_nonneg _,by rw [c]; exact List.mem_cons_self⟩
   ·rw [if_neg (by simpa using c),wrap_s i (by omega)]
    obtain ⟨r,g1,g2⟩:=ix_l n l x hl k (i + 1) (by omega) (by omega)
    refine ⟨r,g1,?_⟩
    cases r with
    | inl _ =>
     intro h
     rcases List.mem_cons.1 h with h | h
     ·exact c h
     ·exact g2 h
    | inr j=>exact ⟨g2.1,List.mem_cons_of_mem _ g2.2⟩
  ·have:i = l.length:=by omega
   subst this
   rw [nlt_n,List.drop_eq_nil_of_le (Nat.le_refl _)]
   exact ⟨_,rfl,fun h=>(by cases h)⟩
theorem nIn (n:Nat) (l:List BS) (x:BS) (hl:l.length ≤ 100000) (hn:200000 ≤ n):name_In n l x = some (decide (x ∈ l)):=by
 unfold name_In slices_Contains_string_string slices_Index_string_string
 obtain ⟨r,g1,g2⟩:=ix_l n l x hl n 0 (Nat.zero_le _) (by omega)
 have g1:slices_Index_string_string_l1 n l x (l.length:Int) n 0 = some r:=g1
 rw [g1]
 rw [List.drop_zero] at g2
 cases r with
 | inl _=>rw [decide_eq_false g2]; rfl
 | inr j =>
  rw [decide_eq_true g2.2]
  simp only [Option.bind_some,Sum.elim_inr]
  rw [decide_eq_true g2.1]
theorem bpairs_stop (R:Rb) (n k:Nat) (ind:Int) (z v:Nd) (h:S_block_reader) (he:h.f_e ≠ 0):block_reader_pairs__o0_l1 R n ind (k + 1) z v h = some (.inl (z,v,h)):=by
 have:(h.f_e == 0) = false:=by simpa using he
 rw [block_reader_pairs__o0_l1,this]; rfl
def ValTot (n:Nat):Prop:=∀ s:BS,s.length ≤ 10000 → (∃ x e,flow_Scalar n s false = some (x,e)) ∧ ∃ x e,flow_Parse n s = some (x,e)
theorem bpairs_l (R:Rb) (B:List Ln → Rs) (M:Nat) (hB:BlkR R B M) (hG:∀ ls,LsOk ls → mu ls < M → GoodR' ls (B ls)) (n:Nat) (hn:400000 ≤ n) (hV:ValTot n) (hVR:∀ s:BS,s.length ≤ 10000 → Red 10000 (valS n s).1) (ind:Int):∀ (k:Nat) (l:List Ln) (a:Nat) (no:Int) (z:Nd) (ks:List BS) (acc:List Nd),a ≤ l.length → l.length ≤ 100000 → LsOk (l.drop a) → mu (l.drop a) ≤ M → l.length - a < k → acc.length + (l.length - a) ≤ 100000 → ks.length + (l.length - a) ≤ 100000 →
  ∃ o,block_reader_pairs__o0_l1 R n ind k z (S_api_Node.mk 3 [] ks acc) (S_block_reader.mk l (a:Int) no 0) = some o ∧ PR l.length a (pairL n B ind k ks acc (l.drop a)) (fin3 o)
 | 0,_,_,_,_,_,_,_,_,_,_,h,_,_=>by omega
 | k + 1,l,a,no,z,ks,acc,ha,hl,hok,hM,hk,hc,hc2=>by
  rw [block_reader_pairs__o0_l1]
  by_cases h:a < l.length
  ·have hd:=drop_at h
   generalize hx:l[a] = x at hd
   rw [hd] at hok hM ⊢
   have hxt:=hok.text
   have hokr:LsOk (l.drop (a + 1)):=hok.suffix (List.suffix_cons x _)
   obtain ⟨e1,e2,e3,e4⟩:=ent_len n x.f_Text hxt (by omega)
   simp only
   rw [lt_i h,if_pos (by rfl),if_pos (in_i h),at_i h,hx,bEntry n x.f_Text hxt (by omega)]
   simp only [Option.bind_some,lett]
   unfold pairL
   generalize hE:entS n x.f_Text = E at e1 e2 e3 e4
   obtain ⟨key,rest,kind⟩:=E
   simp only at e1 e2 e3 e4 ⊢
   have hin:(if (((decide (kind > 0)) == true) && (((decide (kind < 0)) == false) && (((x.f_Indent == ind) == true) && ((decide (x.f_Indent > ind)) == false)))) = true then name_In n ks key else some false) = some (decide (kind > 0) && (decide (x.f_Indent = ind) && decide (key ∈ ks))):=by
    rw [nIn n ks key (by omega) (by omega)]
    by_cases k1:kind > 0
    ·have k1':¬ kind < 0:=by omega
     by_cases k2:x.f_Indent = ind
     ·simp [k1,k1',k2]
     ·simp [k1,k1',k2]
    ·simp [k1]
   rw [hin]
   simp only [Option.bind_some]
   have hx3:(bif (decide (x.f_Indent > ind)) then true else (bif (x.f_Indent == ind) then (bif (decide (kind < 0)) then true else (bif (decide (kind > 0)) then (decide (kind > 0) && (decide (x.f_Indent = ind) && decide (key ∈ ks))) else false)) else false)) = decide (ind < x.f_Indent ∨ (x.f_Indent = ind ∧ (kind < 0 ∨ (0 < kind ∧ key ∈ ks)))):=by
    by_cases c1:ind < x.f_Indent
    ·simp [c1]
    ·by_cases c2:x.f_Indent = ind
     ·subst c2
      by_cases c3:kind < 0
      ·simp [c3]
      ·by_cases c4:kind > 0 <;> by_cases c5:key ∈ ks <;> simp [c3,c4,c5]
     ·simp [c1,c2]
   rw [hx3]
   by_cases c1:ind < x.f_Indent ∨ (x.f_Indent = ind ∧ (kind < 0 ∨ (0 < kind ∧ key ∈ ks)))
   ·rw [decide_eq_true c1,if_pos rfl,if_pos c1,bfail _ _ _ rfl]
    exact ⟨_,rfl,show (3:Int) ≠ 0 by decide,rfl,rfl⟩
   rw [decide_eq_false c1,if_neg Bool.false_ne_true,if_neg c1]
   by_cases c2:x.f_Indent < ind ∨ kind = 0
   ·rw [if_pos c2,if_pos (by
     rcases c2 with c | c
     ·rw [decide_eq_true c]; rfl
     ·rw [c]; cases decide (x.f_Indent < ind) <;> rfl)]
    exact ⟨_,rfl,rfl,rfl,rfl,a,rfl,ha,hd,Nat.le_refl _⟩
   have hk0:(kind == 0) = false:=by
    have:¬ kind = 0:=fun h=>c2 (.inr h)
    simpa using this
   rw [if_neg c2,if_neg (by rw [decide_eq_false (fun h=>c2 (.inl h)),hk0]; decide),wrap_s a (by omega)]
   have hkid:∀ v r',pairKid n B ind x rest (l.drop (a + 1)) = .inr (v,r') → r' <:+ l.drop (a + 1):=fun v r' hk=>(pairKid_good hVR hG (Nat.le_trans e2 hxt) hok hM hk).2
   have hp:∃ p,block_reader_pairs__o0_j2 R n ind key rest (!(rest == [])) z (S_api_Node.mk 3 [] ks acc) x (S_api_Node.mk 0 [] [] []) (S_block_reader.mk l ((a + 1:Nat):Int) no 0) = some p ∧ PR l.length a (pairKid n B ind x rest (l.drop (a + 1))) p:=by
    unfold block_reader_pairs__o0_j2 pairKid
    by_cases c3:rest = []
    ·have hmu:mu (x :: l.drop (a + 1)) = x.f_Text.length + 1 + mu (l.drop (a + 1)):=rfl
     obtain ⟨p,h1,h2⟩:=binner R B M hB n ind true l (a + 1) no (by omega) hl hokr (by omega)
     rw [if_neg (by rw [c3]; decide),h1,if_neg (by simpa using c3)]
     exact ⟨p,rfl,h2.mono (by omega)⟩
    ·have hne:(!(rest == [])) = true:=by simpa using c3
     obtain ⟨v1,v2⟩:=hV rest (Nat.le_trans e2 hxt)
     rw [hne,if_pos rfl,bvalue n _ _ _ rfl v1 v2,if_pos c3]
     unfold valR
     by_cases c4:(valS n rest).2 = 0
     ·rw [if_pos c4,if_pos c4]
      exact ⟨_,rfl,rfl,rfl,rfl,a + 1,rfl,by omega,rfl,by omega⟩
     ·rw [if_neg c4,if_neg c4]
      exact ⟨_,rfl,c4,rfl,rfl⟩
   obtain ⟨p,p1,p2⟩:=hp
   rw [p1]
   simp only [Option.bind_some]
   rw [if_pos (decide_eq_true (by show (ks.length + 1) * (16 + 1) ≤ 140737488355328; omega)),if_pos (decide_eq_true (by show (acc.length + 1) * (72 + 1) ≤ 140737488355328; omega))]
   cases hr:pairKid n B ind x rest (l.drop (a + 1)) with
   | inl e =>
    rw [hr] at p2
    obtain ⟨h1,h2,h3⟩:=p2
    obtain ⟨k',rfl⟩:∃ k',k = k' + 1:=⟨k - 1,by omega⟩
    rw [bpairs_stop R n k' ind z _ p.2 (by rw [h2]; exact h1)]
    exact ⟨_,rfl,h1,h2,h3⟩
   | inr w =>
    obtain ⟨v,r'⟩:=w
    have hsuf:=hkid v r' hr
    rw [hr] at p2
    obtain ⟨h1,h2,h3,a',h4,h5,h6,h7⟩:=p2
    obtain ⟨v',⟨l',at',no',e'⟩⟩:=p
    simp only at h1 h2 h3 h4 h6
    subst h1 h2 h4 h6
    have hlen:=hsuf.length_le
    rw [List.length_drop,List.length_drop] at hlen
    have hmu:=mu_tail (x:=x) hsuf
    obtain ⟨o,g1,g2⟩:=bpairs_l R B M hB hG n hn hV hVR ind k l' a' no' z (ks ++ [key]) (acc ++ [v']) (by omega) (by omega) (hokr.suffix hsuf) (by omega) (by omega) (by simp; omega) (by simp; omega)
    exact ⟨o,g1,by rw [h3] at g2; exact g2.mono h7⟩
  ·have hd:l.drop a = []:=List.drop_eq_nil_of_le (by omega)
   simp only
   rw [hd,nlt_i (by omega),if_neg (by decide)]
   unfold pairL
   exact ⟨_,rfl,rfl,rfl,rfl,a,rfl,ha,hd,Nat.le_refl _⟩
theorem bblock (hV:∀ n,400000 ≤ n → ValTot n) (hVR:∀ (n:Nat) (s:BS),400000 ≤ n → s.length ≤ 10000 → Red 10000 (valS n s).1):∀ (n M:Nat),M + 400000 ≤ n → BlkR (block_reader_block__o0_s2 n) (blkS n) M
 | 0,_,h=>by omega
 | n + 1,M,hn=>by
  intro l a no ha hl hok hM
  have hd:=drop_at ha
  generalize hx:l[a] = x at hd
  rw [hd] at hok hM ⊢
  have hxt:=hok.text
  have hll:=hok.1
  rw [List.length_cons,List.length_drop] at hll
  have hmux:mu (x :: l.drop (a + 1)) = x.f_Text.length + 1 + mu (l.drop (a + 1)):=rfl
  have hlm:=len_mu (l.drop (a + 1))
  rw [List.length_drop] at hlm
  have hB:BlkR (block_reader_block__o0_s2 n) (blkS n) (M - 1):=bblock hV hVR n (M - 1) (by omega)
  have hG:∀ ls,LsOk ls → mu ls < M - 1 → GoodR' ls (blkS n ls):=fun ls h1 h2=>blkS_good hVR n ls h1 (by omega)
  obtain ⟨e1,e2,e3,e4⟩:=ent_len n x.f_Text hxt (by omega)
  show ∃ p,block_reader_block__o0_s2_b (block_reader_block__o0_s2 n) n (S_block_reader.mk l (a:Int) no 0) = some p ∧ _
  unfold block_reader_block__o0_s2_b
  simp only
  rw [if_pos (in_i ha),at_i ha,hx,bEntry n x.f_Text hxt (by omega)]
  simp only [Option.bind_some]
  unfold block_reader_block__o0_s2_j1 blkS
  rw [bRow]
  by_cases c1:rowQ x.f_Text = true
  ·rw [if_pos c1,if_pos c1]
   obtain ⟨o,g1,g2⟩:=brow_l _ _ (M - 1) hB hG n x.f_Indent n l a no (S_api_Node.mk 0 [] [] []) [] (by omega) hl (by rw [hd]; exact hok) (by rw [hd]; omega) (by omega) (by simp; omega)
   unfold block_reader_row__o0_s2
   rw [g1]
   rw [hd] at g2
   refine ⟨fin3 o,?_,g2⟩
   cases o <;> rfl
  rw [if_neg c1,if_neg c1]
  by_cases c2:0 < (entS n x.f_Text).2.2
  ·rw [if_pos (decide_eq_true c2),if_pos c2]
   obtain ⟨o,g1,g2⟩:=bpairs_l _ _ (M - 1) hB hG n (by omega) (hV n (by omega)) (fun s hs=>hVR n s (by omega) hs) x.f_Indent n l a no (S_api_Node.mk 0 [] [] []) [] [] (by omega) hl (by rw [hd]; exact hok) (by rw [hd]; omega) (by omega) (by simp; omega) (by simp; omega)
   unfold block_reader_pairs__o0
   rw [g1]
   rw [hd] at g2
   refine ⟨fin3 o,?_,g2⟩
   cases o <;> rfl
  rw [if_neg (by simpa using c2),if_neg c2]
  by_cases c3:(entS n x.f_Text).2.2 < 0
  ·rw [if_pos (decide_eq_true c3),if_pos c3,bfail _ _ _ rfl]
   exact ⟨_,rfl,show (3:Int) ≠ 0 by decide,rfl,rfl⟩
  rw [if_neg (by simpa using c3),if_neg c3,wrap_s a (by omega)]
  obtain ⟨v1,v2⟩:=hV n (by omega) x.f_Text hxt
  rw [bvalue n _ _ _ rfl v1 v2]
  unfold valR
  by_cases c4:(valS n x.f_Text).2 = 0
  ·rw [if_pos c4,if_pos c4]
   exact ⟨_,rfl,rfl,rfl,rfl,a + 1,rfl,by omega,rfl,by omega⟩
  ·rw [if_neg c4,if_neg c4]
   exact ⟨_,rfl,c4,rfl,rfl⟩
end Go.Proofs.YtefojkdckfidcaaGreatDoor.M
