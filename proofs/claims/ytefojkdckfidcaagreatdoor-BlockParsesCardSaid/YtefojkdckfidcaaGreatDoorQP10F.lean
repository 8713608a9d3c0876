import Derived.Test.YtefojkdckfidcaaGreatDoorQP10E
import Derived.Test.YtefojkdckfidcaaGreatDoorQP10G
set_option linter.all false
namespace Go.Proofs.YtefojkdckfidcaaGreatDoor.M
open Go Go.Proofs.YtefojkdckfidcaaGreatDoor.RX Go.Proofs.YtefojkdckfidcaaGreatDoor.PL
set_option maxRecDepth 100000
theorem rowOf_nl:∀ s:BS,(10:UInt8) ∉ (rowOf s).1 ∧ (s = (rowOf s).1 ++ 10 :: (rowOf s).2 ∨ (s = (rowOf s).1 ∧ (rowOf s).2 = []))
 | []=>⟨by simp [rowOf,upto],.inr ⟨rfl,rfl⟩⟩
 | c :: s=>by
  obtain ⟨h1,h2⟩:=rowOf_nl s
  rw [rowOf_cons]
  by_cases hc:c = 10
  ·rw [if_pos hc]; subst hc; exact ⟨by simp,.inl rfl⟩
  ·rw [if_neg hc]
   refine ⟨by simp only [List.mem_cons,not_or]; exact ⟨fun e=>hc e.symm,h1⟩,?_⟩
   rcases h2 with h2 | ⟨h2,h3⟩
   ·left; simp only [List.cons_append]; rw [← h2]
   ·right; simp only; rw [← h2]; exact ⟨rfl,h3⟩
theorem sp_nil {n:Nat} {no:Nat} {ls:List S_line_Line} (h:Sp n [] no ls):ls = []:=by
 cases h with
 | nil=>rfl
 | skip _ _ _ hs=>exact absurd rfl hs
 | line _ _ _ _ hs=>exact absurd rfl hs
theorem sp_ok {n:Nat} (hn:20000 ≤ n) {s:BS} {no:Nat} {ls:List S_line_Line} (h:Sp n s no ls):s.length ≤ 10000 → (∀ x ∈ ls,LnOk x) ∧ ls.length ≤ s.length ∧ mu ls ≤ s.length + 1:=by
 induction h with
 | nil no=>exact fun _=>⟨fun x hx=>(by cases hx),Nat.le_refl _,by simp [mu]⟩
 | skip s no ls hs h hr ih =>
  intro hl
  obtain ⟨g1,g2,g3⟩:=rowOf_len s
  have g2:=g2 hs
  obtain ⟨h1,h2,h3⟩:=ih (by omega)
  exact ⟨h1,by omega,by omega⟩
 | line s no t ls hs ht h hb hr ih =>
  intro hl
  obtain ⟨g1,g2,g3⟩:=rowOf_len s
  have g2:=g2 hs
  obtain ⟨h1,h2,h3⟩:=ih (by omega)
  have hil:=ind_le (rowOf s).1
  obtain ⟨t',t1,_,t3⟩:=say_eq n ((rowOf s).1.drop (ind (rowOf s).1)) hn (by rw [List.length_drop]; omega)
  rw [h] at t1
  cases t1
  rw [List.length_drop] at t3
  have t3:t.length ≤ (rowOf s).1.length - ind (rowOf s).1:=t3
  refine ⟨fun x hx=>?_,by rw [List.length_cons]; omega,?_⟩
  ·rcases List.mem_cons.1 hx with rfl | hx
   ·exact ⟨by simp only; omega,by simp only; omega⟩
   ·exact h1 x hx
  ·show t.length + 1 + mu ls ≤ _
   rcases (rowOf_nl s).2 with e | ⟨e1,e2⟩
   ·have:=congrArg List.length e
    rw [List.length_append,List.length_cons] at this
    omega
   ·have hls:ls = []:=by rw [e2] at hr; exact sp_nil hr
    have:=congrArg List.length e1
    rw [hls]
    show t.length + 1 + 0 ≤ _
    omega
theorem LsOk.of {n:Nat} (hn:20000 ≤ n) {s:BS} {ls:List S_line_Line} (h:Sp n s 0 ls) (hs:s.length ≤ 10000):LsOk ls ∧ mu ls ≤ 10001:=by
 obtain ⟨h1,h2,h3⟩:=sp_ok hn h hs
 exact ⟨⟨by omega,h1⟩,by omega⟩
theorem split_o (n:Nat) (s:BS):line_Split_o n s = line_Split n s:=by
 have hl:∀ (k:Nat) (v:BS) (o:List S_line_Line) (i:Int),line_Split_o_l1 n k v o i = line_Split_l1 n k v o i:=by
  intro k
  induction k with
  | zero=>intro v o i; rfl
  | succ k ih =>
   intro v o i
   rw [line_Split_o_l1,line_Split_l1]
   have hj:line_Split_o_j2 n v o i = line_Split_j2 n v o i:=rfl
   rw [hj]
   congr 1
   ·congr 1
    funext o1
    cases o1 with
    | inl o1=>exact ih ..
    | inr o1=>rfl
 unfold line_Split_o line_Split
 rw [hl]
def pS (n:Nat) (ls:List Ln):Nd × Int × Int :=
 match blkS n ls with
 | .inl e=>(Z8,e.1,e.2)
 | .inr (_,x :: _)=>(Z8,x.f_No,3)
 | .inr (v,[])=>bif (node_Right n v).getD false then (v,0,0) else (Z8,0,9)
theorem bparse (hV:∀ n,400000 ≤ n → ValTot n) (hVR:∀ (n:Nat) (s:BS),400000 ≤ n → s.length ≤ 10000 → Red 10000 (valS n s).1) (n:Nat) (s:BS) (ls:List Ln) (hn:500000 ≤ n) (hs:line_Split n s = some (ls,0,0)) (hne:ls ≠ []) (hok:LsOk ls) (hmu:mu ls ≤ 10001):block_Parse n s = some (pS n ls):=by
 have hlen:0 < ls.length:=List.length_pos_iff.2 hne
 have hlm:=hok.1
 unfold block_Parse
 rw [split_o,hs]
 simp only [Option.bind_some]
 have e0:((List.length ls:Int) == 0) = false:=by
  have:¬ (List.length ls:Int) = 0:=by omega
  simpa using this
 rw [if_neg (by decide),e0,if_neg Bool.false_ne_true]
 obtain ⟨p,p1,p2⟩:=bblock hV hVR n 20000 (by omega) ls 0 0 hlen (by omega) hok (by rw [List.drop_zero]; omega)
 have p1:block_reader_block__o0_s2 n (S_block_reader.mk ls 0 0 0) = some p:=p1
 rw [p1]
 simp only [Option.bind_some]
 rw [List.drop_zero] at p2
 unfold pS block_Parse_j1
 have hgood:=blkS_good hVR n ls hok (by omega)
 obtain ⟨v,⟨l',at',no',e'⟩⟩:=p
 cases hr:blkS n ls with
 | inl e =>
  rw [hr] at p2
  obtain ⟨h1,h2,h3⟩:=p2
  simp only at h2 h3 ⊢
  have e1:(e' == 0) = false:=by rw [h2]; simpa using h1
  have e2:(e' != 0) = true:=by rw [h2]; simpa using h1
  rw [e1,cond_false,if_neg Bool.false_ne_true]
  simp only [Option.bind_some]
  rw [e2,if_pos rfl,h2,h3]
 | inr w =>
  obtain ⟨w,rest⟩:=w
  rw [hr] at p2
  obtain ⟨h1,h2,h3,a',h4,h5,h6,_⟩:=p2
  simp only at h1 h2 h3 h4 h5 h6 ⊢
  subst h1 h2 h4
  rw [show ((0:Int) == 0) = true from rfl,cond_true]
  cases rest with
  | nil =>
   have hle:l'.length ≤ a':=by
    have:=congrArg List.length h6
    rw [List.length_drop,List.length_nil] at this; omega
   rw [nlt_i hle,if_neg Bool.false_ne_true]
   simp only [Option.bind_some]
   obtain ⟨b,b1,_⟩:=node_Right_eq n v (((hgood v [] hr).1 12).1) (by omega)
   rw [if_neg (by decide),b1]
   cases b <;> rfl
  | cons x r =>
   have hlt:a' < l'.length:=by
    rcases Nat.lt_or_ge a' l'.length with h | h
    ·exact h
    ·rw [List.drop_eq_nil_of_le h] at h6; cases h6
   have hx:l'[a'] = x:=by
    rw [drop_at hlt] at h6
    exact (List.cons.inj h6).1
   rw [lt_i hlt,if_pos rfl,if_pos (in_i hlt),at_i hlt,hx,bfail _ _ _ rfl]
   rfl
theorem fitZ:Fit 12 Z8:=⟨Nat.zero_le _,Nat.zero_le _,fun _=>rfl,fun _=>rfl,fun h=>absurd h (by decide),fun _=>rfl,⟨by decide,by decide⟩,fun x hx=>(by cases hx)⟩
theorem pS_right (hVR:∀ (n:Nat) (s:BS),400000 ≤ n → s.length ≤ 10000 → Red 10000 (valS n s).1) (n:Nat) (ls:List Ln) (hn:500000 ≤ n) (hok:LsOk ls) (hmu:mu ls ≤ 10001):Fit 12 (pS n ls).1 ∧ ((pS n ls).2.2 = 0 → sz8 12 (pS n ls).1 ≤ 2000 ∧ Shk 10000 12 (pS n ls).1 ∧ (pS n ls).2.1 = 0 ∧ blkS n ls = .inr ((pS n ls).1,[])) ∧ ((pS n ls).2.2 ≠ 0 → (pS n ls).1 = Z8):=by
 have hgood:=blkS_good hVR n ls hok (by omega)
 unfold pS
 cases hr:blkS n ls with
 | inl e =>
  refine ⟨fitZ,fun h=>?_,fun _=>rfl⟩
  have:∀ (n:Nat) (ls:List Ln) (e:Int × Int),blkS n ls = .inl e → e.2 ≠ 0:=blkS_err
  exact (this n ls e hr h).elim
 | inr w =>
  obtain ⟨v,rest⟩:=w
  cases rest with
  | cons x r=>exact ⟨fitZ,fun h=>absurd h (show ¬ (3:Int) = 0 by decide),fun _=>rfl⟩
  | nil =>
   simp only
   obtain ⟨b,b1,b2⟩:=node_Right_eq n v (((hgood v [] hr).1 12).1) (by omega)
   rw [b1,Option.getD_some]
   cases b with
   | false=>exact ⟨fitZ,fun h=>absurd h (show ¬ (9:Int) = 0 by decide),fun _=>rfl⟩
   | true =>
    obtain ⟨g1,g2⟩:=b2.1 rfl
    exact ⟨g1,fun _=>⟨g2,((hgood v [] hr).1 12).2,rfl,rfl⟩,fun h=>(h rfl).elim⟩
theorem valTot:∀ n,400000 ≤ n → ValTot n:=fun n hn s hs=>by
 obtain ⟨x,e,ok,p1,_⟩:=scalar_ref n s false hs (by omega)
 obtain ⟨y,f,q1,_⟩:=parse_ref n s hs hn
 exact ⟨⟨x,e,p1⟩,y,f,q1⟩
theorem valRed (n:Nat) (s:BS) (hn:400000 ≤ n) (hs:s.length ≤ 10000):Red 10000 (valS n s).1:=by
 unfold valS
 cases s with
 | nil=>exact Red.null
 | cons c t =>
  simp only
  split
  ·obtain ⟨y,f,q1,_,_,q4⟩:=parse_ref n (c :: t) hs hn
   rw [q1]; exact q4.mono hs
  ·obtain ⟨x,e,ok,p1,_,_,_,p5⟩:=scalar_ref n (c :: t) false hs (by omega)
   rw [p1]; exact p5.mono hs
theorem rparse (n:Nat) (s:BS) (ls:List Ln) (hn:500000 ≤ n) (hs:ref07_Split n s = some (ls,0,0)) (hne:ls ≠ []) (hok:LsOk ls) (hmu:mu ls ≤ 10001):ref10_Parse n s = some (pS n ls):=by
 have hlen:0 < ls.length:=List.length_pos_iff.2 hne
 have hlm:=hok.1
 unfold ref10_Parse
 rw [hs]
 simp only [Option.bind_some]
 have e0:((List.length ls:Int) == 0) = false:=by
  have:¬ (List.length ls:Int) = 0:=by omega
  simpa using this
 rw [if_neg (by decide),e0,if_neg Bool.false_ne_true]
 obtain ⟨f,p1,p2⟩:=rblock valRed n 20000 (by omega) ls 0 hlen (by omega) hok (by rw [List.drop_zero]; omega)
 have p1:ref10_Block n ls 0 = some f:=p1
 rw [p1]
 simp only [Option.bind_some]
 rw [List.drop_zero] at p2
 unfold pS
 have hgood:=blkS_good valRed n ls hok (by omega)
 cases hr:blkS n ls with
 | inl e =>
  rw [hr] at p2
  obtain ⟨h1,h2,h3⟩:=p2
  have e2:(f.f_E != 0) = true:=by rw [h2]; simpa using h1
  rw [e2,if_pos rfl,h2,h3]
 | inr w =>
  obtain ⟨w,rest⟩:=w
  rw [hr] at p2
  obtain ⟨h1,h2,a',h4,h5,h6,_⟩:=p2
  have h1:f.f_N = w:=h1
  have h6:ls.drop a' = rest:=h6
  rw [h2,if_neg (by decide),h4,h1]
  cases rest with
  | nil =>
   have hle:ls.length ≤ a':=by
    have:=congrArg List.length h6
    rw [List.length_drop,List.length_nil] at this; omega
   rw [nlt_i hle,if_neg Bool.false_ne_true]
   obtain ⟨b,b1,b2,_⟩:=right_ref n w (((hgood w [] hr).1 12).1) (by omega)
   simp only
   rw [b1,b2]
   cases b <;> rfl
  | cons x r =>
   have hlt:a' < ls.length:=by
    rcases Nat.lt_or_ge a' ls.length with h | h
    ·exact h
    ·rw [List.drop_eq_nil_of_le h] at h6; cases h6
   have hx:ls[a'] = x:=by
    rw [drop_at hlt] at h6
    exact (List.cons.inj h6).1
   rw [lt_i hlt,if_pos rfl,if_pos (in_i hlt),at_i hlt,hx]
theorem parse_both (n:Nat) (s:BS) (hs:s.length ≤ 8192) (hn:500000 ≤ n):∃ r,block_Parse n s = some r ∧ ref10_Parse n s = some r ∧ Fit 12 r.1 ∧ (r.2.2 = 0 → sz8 12 r.1 ≤ 2000 ∧ Shk 10000 12 r.1):=by
 obtain ⟨q,q1,q2,_⟩:=Split_eq n s (by omega)
 rcases split_cases n (by omega) s hs with ⟨ls,h1,h2⟩ | ⟨no,e,h1,h2⟩
 ·rw [h2] at q1; cases q1
  by_cases hne:ls = []
  ·subst hne
   refine ⟨(Z8,0,0),?_,?_,fitZ,fun _=>⟨by decide,(Red.null 12).2⟩⟩
   ·unfold block_Parse; rw [split_o,h2]; rfl
   ·unfold ref10_Parse; rw [q2]; rfl
  ·obtain ⟨o1,o2⟩:=LsOk.of (by omega) h1 (by omega)
   obtain ⟨f1,f2,_⟩:=pS_right valRed n ls hn o1 o2
   exact ⟨pS n ls,bparse valTot valRed n s ls hn h2 hne o1 o2,rparse n s ls hn q2 hne o1 o2,f1,fun h=>⟨(f2 h).1,(f2 h).2.1⟩⟩
 ·rw [h2] at q1; cases q1
  have he:(e != 0) = true:=by simpa using h1
  refine ⟨(Z8,no,e),?_,?_,fitZ,fun h=>(h1 h).elim⟩
  ·unfold block_Parse; rw [split_o,h2]
   simp only [Option.bind_some]
   rw [he]; rfl
  ·unfold ref10_Parse; rw [q2]
   simp only [Option.bind_some]
   rw [he]; rfl
theorem law10_BlockParses_true (a0:BS) (_:List.length a0 ≤ maxLen):∃ n,law10_BlockParses n a0 = some true:=by
 obtain ⟨n,hn⟩:∃ n,n = 600000:=⟨_,rfl⟩
 refine ⟨n,?_⟩
 have haw:=awake10 n (by omega)
 unfold law10_BlockParses
 by_cases c:(List.length a0:Int) > 1500
 ·rw [if_pos (decide_eq_true c),haw]; rfl
 ·obtain ⟨r,p1,p2,p3,_⟩:=parse_both n a0 (by omega) (by omega)
  rw [if_neg (by rw [decide_eq_false c]; decide),p1,p2]
  simp only [Option.bind_some]
  rw [same_self 12 n r.1 p3 (by omega)]
  simp only [Option.bind_some,beq_self_eq_true,cond_true,if_true]
  rw [haw]; rfl
end Go.Proofs.YtefojkdckfidcaaGreatDoor.M
