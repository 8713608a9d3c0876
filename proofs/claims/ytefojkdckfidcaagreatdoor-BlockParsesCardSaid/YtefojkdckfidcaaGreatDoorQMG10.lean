import Derived.Test.YtefojkdckfidcaaGreatDoorQMG10f
set_option linter.all false
namespace Go.Proofs.YtefojkdckfidcaaGreatDoor.M
open Go.RowKit Go.Proofs.YtefojkdckfidcaaGreatDoor.RX
set_option maxRecDepth 100000
abbrev hR30 (R_ref08_Same:S_api_Node → S_api_Node → Option (Bool)):Prop:=∀ (a0:S_api_Node) (a1:S_api_Node) (r:Bool),R_ref08_Same a0 a1 = some r → CallsX Tryz.prog 11 [.agg [vi a0.f_Kind,.str a0.f_Text,ls a0.f_Keys,tn8 a0.f_Kids],.agg [vi a1.f_Kind,.str a1.f_Text,ls a1.f_Keys,tn8 a1.f_Kids]] (vb r)
theorem ok_ref08_Same_l1 (R_ref08_Same:S_api_Node → S_api_Node → Option (Bool)) (hR_ref08_Same:hR30 R_ref08_Same) (n:Nat) (b2:S_api_Node) (b3:S_api_Node) {F0:Fz} {w0:Pt Tryz.prog} {Q:Exit → Act → World → Prop} (k:Nat):∀ (v5:Int) (o:Sum (Unit) (Bool)),ref08_Same_l1 R_ref08_Same n b2 b3 k v5 = some o → (Sum.elim (fun s=>To 54 F0 w0 [] [] (.exit 0) Q) (fun s=>To 54 F0 w0 [(4,vb s)] [] .ret Q)) o → WL Tryz.prog 54 F0 w0 [(2,.own 2 0),(3,.own 3 0),(5,vi v5)] [(2,26,qc9 b2),(3,26,qc9 b3)] (cI (cI (cB (cA (cB (cB (cF Tryz.f11))))))) Q:=by
 induction k with
 | zero=>intro v5 o h; cases h
 | succ k ih =>
  intro v5 o h hQ
  rw [ref08_Same_l1] at h
  refine WL.round (Wp.seq (Wp.seq (rg [2,3,5,39] [2,3] [(2,.own 2 0),(3,.own 3 0),(5,vi v5),(39,vb (decide (v5 < (List.length b2.f_Kids:Int))))] [(2,26,qc9 b2),(3,26,qc9 b3)] (To.thenN (cn h (fun h=>?_) (fun h=>?_))))))
  ·refine Wp.skip (To.thenN (Wp.seq (Wp.block (Wp.seq ?_))))
   obtain ⟨hc4,h⟩:=chk_of h
   obtain ⟨hc5,h⟩:=chk_of h
   obtain ⟨r3,hr3,h⟩:=bind_of h
   refine Wp.regionD hm hΓ [(10,vb r3)] [2,3,5,53] [2,3] (K':=[(2,.own 2 0),(3,.own 3 0),(5,vi v5),(53,vb (!r3))]) (L':=[(2,26,qc9 b2),(3,26,qc9 b3)]) (ob:=[(decide (0 ≤ v5 ∧ v5 < (List.length b2.f_Kids:Int))) = true,(decide (0 ≤ v5 ∧ v5 < (List.length b3.f_Kids:Int))) = true,(true = true → CX Tryz.prog 11 [.agg [vi ((ex73 b2 v5).f_Kind),.str ((ex73 b2 v5).f_Text),ls ((ex73 b2 v5).f_Keys),tn8 ((ex73 b2 v5).f_Kids)],.agg [vi ((ex73 b3 v5).f_Kind),.str ((ex73 b3 v5).f_Text),ls ((ex73 b3 v5).f_Keys),tn8 ((ex73 b3 v5).f_Kids)]] (vb r3))]) (by kernel_rfl) (AllP.cons hc4 (AllP.cons hc5 (AllP.cons (fun _=>cx (hR_ref08_Same (ex73 b2 v5) (ex73 b3 v5) _ hr3)) AllP.nil))) (To.thenN (cn h (fun h=>?_) (fun h=>?_)))
   ·refine Wp.seq (rg [4] [] [(4,vb false)] [] (To.thenN (Wp.ret (To.blockR (To.thenR (To.thenR ?_))))))
    cases h
    exact hQ
   ·refine Wp.skip (To.blockN (To.thenN (rg [2,3,5] [2,3] [(2,.own 2 0),(3,.own 3 0),(ex12 v5)] [(2,26,qc9 b2),(3,26,qc9 b3)] (kt [2,3,5] [2,3] [(2,.own 2 0),(3,.own 3 0),(ex12 v5)] [(2,26,qc9 b2),(3,26,qc9 b3)] (To.again ?_)))))
    exact ih (IntKind.wrap .i64 (v5 + 1)) _ h hQ
  ·refine Wp.exit (To.thenX (To.thenX (kt [] [] [] [] ?_)))
   cases h
   exact hQ
def ref08_Same_b (R_ref08_Same:S_api_Node → S_api_Node → Option (Bool)) (n:Nat) (a0:S_api_Node) (a1:S_api_Node):Option (Bool) :=
 ((if ((bif (a0.f_Kind != a1.f_Kind) then true else (!(a0.f_Text == a1.f_Text))) == false) = true then ref02_Same n a0.f_Keys a1.f_Keys else some false)).bind fun r1 =>
 lett ((bif (bif (bif (a0.f_Kind != a1.f_Kind) then true else (!(a0.f_Text == a1.f_Text))) then true else (!r1)) then true else ((List.length a0.f_Kids:Int) != (List.length a1.f_Kids:Int))):Bool) fun x2 =>
 if x2 = true then some false
 else ((ref08_Same_l1 R_ref08_Same n a0 a1 n 0).bind fun o3 =>
 (Sum.elim (fun o3=>some true) (fun o3=>some o3)) o3)
theorem ok_ref08_Same_b (R_ref08_Same:S_api_Node → S_api_Node → Option (Bool)) (hR_ref08_Same:hR30 R_ref08_Same) (n:Nat) (a0:S_api_Node) (a1:S_api_Node) (r:Bool) (h:ref08_Same_b R_ref08_Same n a0 a1 = some r):CallsX Tryz.prog 11 [.agg (qc9 a0),.agg (qc9 a1)] (vb r):=by
 unfold ref08_Same_b at h
 refine xo Tryz.f11 rfl fun F0 w0 _=>?_
 refine Wp.seq (rg [2,3] [2,3] [(2,.own 2 0),(3,.own 3 0)] [(2,26,qc9 a0),(3,26,qc9 a1)] (To.thenN (Wp.seq (Wp.seq ?_))))
 obtain ⟨r1,hr1,h⟩:=bind_of h
 obtain ⟨x2,hx2,h⟩:=lett_of h
 refine rr [] [(17,vb r1)] [] [2,3,34] [2,3] [(2,.own 2 0),(3,.own 3 0),(34,vb (bif (bif (bif (a0.f_Kind != a1.f_Kind) then true else (!(a0.f_Text == a1.f_Text))) then true else (!r1)) then true else ((List.length a0.f_Kids:Int) != (List.length a1.f_Kids:Int))))] [(2,26,qc9 a0),(3,26,qc9 a1)] [(((bif (a0.f_Kind != a1.f_Kind) then true else (!(a0.f_Text == a1.f_Text))) == false) = true → CX Tryz.prog 30 [ls a0.f_Keys,ls a1.f_Keys] (vb r1))] (AllP.cons (fun hg=>cx (ok_ref02_Same n a0.f_Keys a1.f_Keys _ (if_t hg hr1))) AllP.nil) (To.eq (K':=[(2,.own 2 0),(3,.own 3 0),(34,vb x2)]) (L':=[(2,26,qc9 a0),(3,26,qc9 a1)]) (by cases hx2; rfl) (by cases hx2; rfl) (To.thenN (cn h (fun h=>?_) (fun h=>?_))))
 ·refine Wp.seq (rg [4] [] [(4,vb false)] [] (To.thenN (Wp.ret (To.thenR ?_))))
  cases h
  exact To.done hΓ (by kernel_rfl)
 ·refine Wp.skip (To.thenN (Wp.seq (Wp.seq (rg [2,3,5] [2,3] [(2,.own 2 0),(3,.own 3 0),(5,vi 0)] [(2,26,qc9 a0),(3,26,qc9 a1)] (To.thenN (Wp.block ?_))))))
  obtain ⟨o3,ho3,h⟩:=bind_of h
  refine kw [2,3,5] [2,3] [(2,.own 2 0),(3,.own 3 0),(5,vi 0)] [(2,26,qc9 a0),(3,26,qc9 a1)] (Wp.loopL (ok_ref08_Same_l1 R_ref08_Same hR_ref08_Same n a0 a1 n 0 o3 ho3 ?_))
  rcases o3 with o3 | o3
  ·replace h:=sum_l h
   refine To.blockX (To.thenN (Wp.seq (rg [4] [] [(4,vb true)] [] (To.thenN (Wp.ret ?_)))))
   cases h
   exact To.done hΓ (by kernel_rfl)
  ·replace h:=sum_r h
   refine To.blockR (To.thenR ?_)
   cases h
   exact To.done hΓ (by kernel_rfl)
def ref08_Same:Nat → S_api_Node → S_api_Node → Option (Bool)
 | 0=>fun _ _=>none
 | n + 1=>ref08_Same_b (ref08_Same n) n
theorem ok_ref08_Same (n:Nat):∀ (a0:S_api_Node) (a1:S_api_Node) (r:Bool),ref08_Same n a0 a1 = some r → CallsX Tryz.prog 11 [.agg (qc9 a0),.agg (qc9 a1)] (vb r):=by
 induction n with
 | zero=>intro a0 a1 r h; cases h
 | succ n ih=>exact fun a0 a1 r h=>ok_ref08_Same_b (ref08_Same n) ih n a0 a1 r h
def law10_BlockParses (n:Nat) (a0:List UInt8):Option (Bool) :=
 if (decide ((List.length a0:Int) > 1500)) = true then ((law10_awake n).bind fun r1 =>
 some r1)
 else ((block_Parse n a0).bind fun r2 =>
 (ref10_Parse n a0).bind fun r3 =>
 (ref08_Same n r2.1 r3.1).bind fun r4 =>
 ((if ((bif (bif r4 then (r2.2.1 == r3.2.1) else false) then (r2.2.2 == r3.2.2) else false) == true) = true then law10_awake n else some false)).bind fun r5 =>
 some (bif (bif (bif r4 then (r2.2.1 == r3.2.1) else false) then (r2.2.2 == r3.2.2) else false) then r5 else false))
theorem ok_law10_BlockParses (n:Nat) (a0:List UInt8) (r:Bool) (h:law10_BlockParses n a0 = some r):CallsX Tryz.prog 3 [.str a0] (vb r):=by
 unfold law10_BlockParses at h
 refine xo Tryz.f3 rfl fun F0 w0 _=>?_
 refine Wp.seq (rg [0] [] [(0,.str a0)] [] (To.thenN (Wp.seq (Wp.seq (rg [0,11] [] [(0,.str a0),(11,vb (decide ((List.length a0:Int) > 1500)))] [] (To.thenN (cn h (fun h=>?_) (fun h=>?_))))))))
 ·refine Wp.seq ?_
  obtain ⟨r1,hr1,h⟩:=bind_of h
  refine rc [] 0 [2] [] [(2,vb r1)] [] (ok_law10_awake n  _ hr1) (To.thenN (Wp.ret (To.thenR ?_)))
  cases h
  exact To.done hΓ (by kernel_rfl)
 ·refine Wp.skip (To.thenN (Wp.seq ?_))
  obtain ⟨r2,hr2,h⟩:=bind_of h
  refine rc [] 1 [0,3,4,5] [3] [(0,.str a0),(3,.own 3 0),(4,vi r2.2.1),(5,vi r2.2.2)] [(3,26,qc9 r2.1)] (ok_block_Parse n a0 _ hr2) (To.thenN (Wp.seq ?_))
  obtain ⟨r3,hr3,h⟩:=bind_of h
  refine rc [] 1 [3,4,5,6,7,8] [3,6] [(3,.own 3 0),(4,vi r2.2.1),(5,vi r2.2.2),(6,.own 6 0),(7,vi r3.2.1),(8,vi r3.2.2)] [(3,26,qc9 r2.1),(6,26,qc9 r3.1)] (ok_ref10_Parse n a0 _ hr3) (To.thenN (Wp.seq ?_))
  obtain ⟨r4,hr4,h⟩:=bind_of h
  obtain ⟨r5,hr5,h⟩:=bind_of h
  refine rr [] [(2,vb r4),(14,vb r5)] [] [2] [] [(2,vb (bif (bif (bif r4 then (r2.2.1 == r3.2.1) else false) then (r2.2.2 == r3.2.2) else false) then r5 else false))] [] [_,(((bif (bif r4 then (r2.2.1 == r3.2.1) else false) then (r2.2.2 == r3.2.2) else false) == true) = true → CX Tryz.prog 8 [] (vb r5))] (AllP.cons (c1 (ok_ref08_Same n r2.1 r3.1 _ hr4)) (AllP.cons (fun hg=>cx (ok_law10_awake n  _ (if_t hg hr5))) AllP.nil)) (To.thenN (Wp.ret ?_))
  cases h
  exact To.done hΓ (by kernel_rfl)
theorem opens_string:Opens Tryz.prog 9 (fun l:List UInt8=>l.length ≤ maxLen) (fun l=>[.str l]):=opens_str (by kernel_rfl)
end Go.Proofs.YtefojkdckfidcaaGreatDoor.M
