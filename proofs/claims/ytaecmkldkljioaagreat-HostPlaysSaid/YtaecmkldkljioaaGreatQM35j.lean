import Derived.Test.YtaecmkldkljioaaGreatQM35i
set_option linter.all false
namespace Go.Proofs.YtaecmkldkljioaaGreat.M
open Go.RowKit Go.Proofs.YtaecmkldkljioaaGreat.RX
set_option maxRecDepth 100000
def ref34_Of_l1 (n:Nat) (v0:List (S_fault_Gap)) (b2:S_ref34_Plan):Nat → Int → S_ref34_Plan → Option (S_ref34_Plan)
 | 0,_,_=>none
 | k + 1,v4,b3=>if (decide (v4 < (List.length v0:Int))) = true then (if (decide (0 ≤ v4 ∧ v4 < (List.length v0:Int))) = true then ((ref34_Add n b3 ((v0)[Int.toNat v4]?.getD (S_fault_Gap.mk 0 0))).bind fun r1 =>
 ref34_Of_l1 n v0 b2 k (IntKind.wrap .i64 (v4 + 1)) r1) else none)
 else some b3
theorem ok_ref34_Of_l1 (n:Nat) (v0:List (S_fault_Gap)) (b2:S_ref34_Plan) {F0:Fz} {w0:Pt Tryz.prog} {Q:Exit → Act → World → Prop} (k:Nat):∀ (v4:Int) (b3:S_ref34_Plan) (o:S_ref34_Plan),ref34_Of_l1 n v0 b2 k v4 b3 = some o → To 19 F0 w0 [(2,.own 2 0),(3,.own 3 0)] [(2,87,qc53 b2),(3,87,qc53 o)] (.exit 0) Q → WL Tryz.prog 19 F0 w0 [(0,rs32 v0),(2,.own 2 0),(3,.own 3 0),(4,vi v4)] [(2,87,qc53 b2),(3,87,qc53 b3)] (cI (cI (cB (cA (cB (cB (cF Tryz.f74))))))) Q:=by
 induction k with
 | zero=>intro v4 b3 o h; cases h
 | succ k ih =>
  intro v4 b3 o h hQ
  rw [ref34_Of_l1] at h
  refine WL.round (Wp.seq (Wp.seq (rg [0,2,3,4,9] [2,3] [(0,rs32 v0),(2,.own 2 0),(3,.own 3 0),(4,vi v4),(9,vb (decide (v4 < (List.length v0:Int))))] [(2,87,qc53 b2),(3,87,qc53 b3)] (To.thenN (cn h (fun h=>?_) (fun h=>?_))))))
  ·refine Wp.skip (To.thenN (Wp.seq (Wp.block ?_)))
   obtain ⟨hc2,h⟩:=chk_of h
   obtain ⟨r1,hr1,h⟩:=bind_of h
   refine Wp.regionD hm hΓ [(5,.agg (qc53 r1))] [0,2,3,4] [2,3] (K':=[(0,rs32 v0),(2,.own 2 0),(3,.own 3 0),(4,vi v4)]) (L':=[(2,87,qc53 b2),(3,87,qc53 r1)]) (ob:=[(decide (0 ≤ v4 ∧ v4 < (List.length v0:Int))) = true,(true = true → CX Tryz.prog 105 [.agg (qc53 b3),.agg [vi ((ex33 v0 v4).f_Skip),vi ((ex33 v0 v4).f_Fail)]] (.agg (qc53 r1)))]) (by kernel_rfl) (AllP.cons hc2 (AllP.cons (fun _=>cx (ok_ref34_Add n b3 (ex33 v0 v4) _ hr1)) AllP.nil)) (To.blockN (To.thenN (rg [0,2,3,4] [2,3] [(0,rs32 v0),(2,.own 2 0),(3,.own 3 0),(ex27 v4)] [(2,87,qc53 b2),(3,87,qc53 r1)] (kt [0,2,3,4] [2,3] [(0,rs32 v0),(2,.own 2 0),(3,.own 3 0),(ex27 v4)] [(2,87,qc53 b2),(3,87,qc53 r1)] (To.again ?_)))))
   exact ih (IntKind.wrap .i64 (v4 + 1)) r1 _ h hQ
  ·refine Wp.exit (To.thenX (To.thenX (kt [2,3] [2,3] [(2,.own 2 0),(3,.own 3 0)] [(2,87,qc53 b2),(3,87,qc53 b3)] ?_)))
   cases h
   exact hQ
def ref34_Of (n:Nat) (a0:List (S_fault_Gap)):Option (S_ref34_Plan) :=
 (ref34_Of_l1 n a0 (S_ref34_Plan.mk [] 0) n 0 (S_ref34_Plan.mk [] 0)).bind fun o1 =>
 some o1
theorem ok_ref34_Of (n:Nat) (a0:List (S_fault_Gap)) (r:S_ref34_Plan) (h:ref34_Of n a0 = some r):CallsX Tryz.prog 74 [rs32 a0] (.agg (qc53 r)):=by
 unfold ref34_Of at h
 refine xo Tryz.f74 rfl fun F0 w0 _=>?_
 refine Wp.seq (rg [0,2] [2] [(0,rs32 a0),(2,.own 2 0)] [(2,87,[.val (.slice none 0 0),vi 0])] (To.thenN (Wp.seq (rg [0,2,3] [2,3] [(0,rs32 a0),(2,.own 2 0),(3,.own 3 0)] [(2,87,[.val (.slice none 0 0),vi 0]),(3,87,[.val (.slice none 0 0),vi 0])] (To.thenN (Wp.seq (Wp.seq (rg [0,2,3,4] [2,3] [(0,rs32 a0),(2,.own 2 0),(3,.own 3 0),(4,vi 0)] [(2,87,[.val (.slice none 0 0),vi 0]),(3,87,[.val (.slice none 0 0),vi 0])] (To.thenN (Wp.block ?_))))))))))
 obtain ⟨o1,ho1,h⟩:=bind_of h
 refine kw [0,2,3,4] [2,3] [(0,rs32 a0),(2,.own 2 0),(3,.own 3 0),(4,vi 0)] [(2,87,[.val (.slice none 0 0),vi 0]),(3,87,[.val (.slice none 0 0),vi 0])] (Wp.weak (K':=[(0,rs32 a0),(2,.own 2 0),(3,.own 3 0),(4,vi 0)]) (L':=[(2,87,[rs32 [],vi 0]),(3,87,[rs32 [],vi 0])]) (.cons (.refl _) (.cons (.refl _) (.cons (.refl _) (.cons (.refl _) .nil)))) (.cons (.cons (.zero _ _) (.cons (.refl _) .nil)) (.cons (.cons (.zero _ _) (.cons (.refl _) .nil)) .nil)) (Wp.loopL (ok_ref34_Of_l1 n a0 zx50 n 0 zx50 o1 ho1 (To.blockX (To.thenN (Wp.seq (rg [2] [2] [(2,.own 2 0)] [(2,87,qc53 o1)] (To.thenN (Wp.ret ?_)))))))))
 cases h
 exact To.done hΓ (by kernel_rfl)
def ref35_New (n:Nat) (a0:List (S_fault_Gap)):Option (S_ref35_Host) :=
 (ref34_Of n a0).bind fun r1 =>
 some (S_ref35_Host.mk (S_ref33_Store.mk [] [] [] 0) r1 0)
theorem ok_ref35_New (n:Nat) (a0:List (S_fault_Gap)) (r:S_ref35_Host) (h:ref35_New n a0 = some r):CallsX Tryz.prog 41 [rs32 a0] (.agg (qc47 r)):=by
 unfold ref35_New at h
 refine xo Tryz.f41 rfl fun F0 w0 _=>?_
 refine Wp.seq (rg [0,2] [2] [(0,rs32 a0),(2,.own 2 0)] [(2,89,[.val (.slice none 0 0),.val (.slice none 0 0),.val (.slice none 0 0),vi 0,.val (.slice none 0 0),vi 0,vi 0])] (To.thenN (Wp.seq ?_)))
 obtain ⟨r1,hr1,h⟩:=bind_of h
 refine rc [] 1 [2] [2] [(2,.own 2 0)] [(2,89,[.val (.slice none 0 0),.val (.slice none 0 0),.val (.slice none 0 0),vi 0,rs32 r1.f_L,vi r1.f_More,vi 0])] (ok_ref34_Of n a0 _ hr1) (To.thenN (Wp.ret (To.weak (K':=[(2,.own 2 0)]) (L':=[(2,89,[rs19 [],rs16 [],rs16 [],vi 0,rs32 r1.f_L,vi r1.f_More,vi 0])]) (.cons (.refl _) .nil) (.cons (.cons (.zero _ _) (.cons (.zero _ _) (.cons (.zero _ _) (.cons (.refl _) (.cons (.refl _) (.cons (.refl _) (.cons (.refl _) .nil))))))) .nil) ?_)))
 cases h
 exact To.done hΓ (by kernel_rfl)
def law35_Alike__o0 (n:Nat) (a1:S_ref35_Host) (h0:S_host_Host):Option (Bool × S_host_Host) :=
 lett (host_Host_Now__o0 h0) fun r1 =>
 ((if ((r1.1 == a1.f_Now) == true) = true then host_Host_Boxes__o0 n r1.2 else some ([],r1.2))).bind fun r2 =>
 ((if ((r1.1 == a1.f_Now) == true) = true then ref33_Seen n a1.f_S else some [])).bind fun r3 =>
 ((if ((r1.1 == a1.f_Now) == true) = true then law33_SameBoxes n r2.1 r3 else some false)).bind fun r4 =>
 ((if ((bif (r1.1 == a1.f_Now) then r4 else false) == true) = true then host_Host_Nets__o0 n r2.2 else some ([],r2.2))).bind fun r5 =>
 ((if ((bif (r1.1 == a1.f_Now) then r4 else false) == true) = true then ref33_Listed n a1.f_S.f_Nets else some [])).bind fun r6 =>
 ((if ((bif (r1.1 == a1.f_Now) then r4 else false) == true) = true then ref33_SameKept n r5.1 r6 else some false)).bind fun r7 =>
 ((if ((bif (bif (r1.1 == a1.f_Now) then r4 else false) then r7 else false) == true) = true then host_Host_Vols__o0 n r5.2 else some ([],r5.2))).bind fun r8 =>
 ((if ((bif (bif (r1.1 == a1.f_Now) then r4 else false) then r7 else false) == true) = true then ref33_Listed n a1.f_S.f_Vols else some [])).bind fun r9 =>
 ((if ((bif (bif (r1.1 == a1.f_Now) then r4 else false) then r7 else false) == true) = true then ref33_SameKept n r8.1 r9 else some false)).bind fun r10 =>
 some ((bif (bif (bif (r1.1 == a1.f_Now) then r4 else false) then r7 else false) then r10 else false),r8.2)
theorem ok_law35_Alike__o0 (n:Nat) (a1:S_ref35_Host) (h0:S_host_Host) (r:Bool × S_host_Host) (h:law35_Alike__o0 n a1 h0 = some r):CallsB Tryz.prog 43 [.own 1000000 0,.agg (qc47 a1)] (qh39 1000000 1010060 1010061 1010062 1010063 h0) (vb r.1) (qh39 1000000 1010060 1010061 1010062 1010063 r.2):=by
 unfold law35_Alike__o0 at h
 refine bo Tryz.f43 rfl fun F0 w0=>?_
 refine Wp.seq (rg [0,3] [3,1000000,1010060,1010061,1010062,1010063] [(0,.own 1000000 0),(3,.own 3 0)] ((3,89,(E_ref35_Host a1))::qh39 1000000 1010060 1010061 1010062 1010063 h0) (To.thenN (Wp.seq ?_)))
 obtain ⟨r1,hr1,h⟩:=lett_of h
 obtain ⟨r2,hr2,h⟩:=bind_of h
 obtain ⟨r3,hr3,h⟩:=bind_of h
 obtain ⟨r4,hr4,h⟩:=bind_of h
 obtain ⟨r5,hr5,h⟩:=bind_of h
 obtain ⟨r6,hr6,h⟩:=bind_of h
 obtain ⟨r7,hr7,h⟩:=bind_of h
 obtain ⟨r8,hr8,h⟩:=bind_of h
 obtain ⟨r9,hr9,h⟩:=bind_of h
 obtain ⟨r10,hr10,h⟩:=bind_of h
 refine Wp.regionO hm hΓ [] [(10,rs29 r3),(11,vb r4),(19,rs16 r6),(20,vb r7),(28,rs16 r9),(29,vb r10)] [(1,⟨[(1000000,1000000),(1010060,1010060),(1010061,1010061),(1010062,1010062),(1010063,1010063)],[(1000000,1000000),(1010060,1010060),(1010061,1010061),(1010062,1010062),(1010063,1010063)],[.own 1000000 0],(qh39 1000000 1010060 1010061 1010062 1010063 h0),vi r1.1,(qh39 1000000 1010060 1010061 1010062 1010063 r1.2)⟩),(7,⟨[(1000000,1000000),(1010060,1010060),(1010061,1010061),(1010062,1010062),(1010063,1010063)],[(1000000,1000000),(1010060,1010060),(1010061,1010061),(1010062,1010062),(1010063,1010063)],[.own 1000000 0],(qh39 1000000 1010060 1010061 1010062 1010063 r1.2),rs29 r2.1,(qh39 1000000 1010060 1010061 1010062 1010063 r2.2)⟩),(15,⟨[(1000000,1000000),(1010060,1010060),(1010061,1010061),(1010062,1010062),(1010063,1010063)],[(1000000,1000000),(1010060,1010060),(1010061,1010061),(1010062,1010062),(1010063,1010063)],[.own 1000000 0],(qh39 1000000 1010060 1010061 1010062 1010063 r2.2),rs16 r5.1,(qh39 1000000 1010060 1010061 1010062 1010063 r5.2)⟩),(24,⟨[(1000000,1000000),(1010060,1010060),(1010061,1010061),(1010062,1010062),(1010063,1010063)],[(1000000,1000000),(1010060,1010060),(1010061,1010061),(1010062,1010062),(1010063,1010063)],[.own 1000000 0],(qh39 1000000 1010060 1010061 1010062 1010063 r5.2),rs16 r8.1,(qh39 1000000 1010060 1010061 1010062 1010063 r8.2)⟩)] [0,3,4,5,6,7,8,9,10,11,12,13,14,15,16,17,18,19,20,21,22,23,24,25,26,27,28,29,30,31,32,33,34,35] [3,1000000,1010060,1010061,1010062,1010063] [4] [1000000,1010060,1010061,1010062,1010063] (K':=[(4,vb (bif (bif (bif (r1.1 == a1.f_Now) then r4 else false) then r7 else false) then r10 else false))]) (L':=(qh39 1000000 1010060 1010061 1010062 1010063 r8.2)) (ob:=[CbOb (CallsB Tryz.prog) 40 [.own 1000000 0] (ph40 1010060 1010061 1010062 1010063 h0) ⟨[(1000000,1000000),(1010060,1010060),(1010061,1010061),(1010062,1010062),(1010063,1010063)],[(1000000,1000000),(1010060,1010060),(1010061,1010061),(1010062,1010062),(1010063,1010063)],[.own 1000000 0],(qh39 1000000 1010060 1010061 1010062 1010063 h0),vi r1.1,(qh39 1000000 1010060 1010061 1010062 1010063 r1.2)⟩,(((r1.1 == a1.f_Now) == true) = true → CbOb (CallsB Tryz.prog) 31 [.own 1000000 0] (ph40 1010060 1010061 1010062 1010063 r1.2) ⟨[(1000000,1000000),(1010060,1010060),(1010061,1010061),(1010062,1010062),(1010063,1010063)],[(1000000,1000000),(1010060,1010060),(1010061,1010061),(1010062,1010062),(1010063,1010063)],[.own 1000000 0],(qh39 1000000 1010060 1010061 1010062 1010063 r1.2),rs29 r2.1,(qh39 1000000 1010060 1010061 1010062 1010063 r2.2)⟩),(((r1.1 == a1.f_Now) == true) = false → KeepOb (qh39 1000000 1010060 1010061 1010062 1010063 r1.2) ⟨[(1000000,1000000),(1010060,1010060),(1010061,1010061),(1010062,1010062),(1010063,1010063)],[(1000000,1000000),(1010060,1010060),(1010061,1010061),(1010062,1010062),(1010063,1010063)],[.own 1000000 0],(qh39 1000000 1010060 1010061 1010062 1010063 r1.2),rs29 r2.1,(qh39 1000000 1010060 1010061 1010062 1010063 r2.2)⟩),(((r1.1 == a1.f_Now) == true) = true → CX Tryz.prog 16 [.agg [rs19 a1.f_S.f_Boxes,rs16 a1.f_S.f_Nets,rs16 a1.f_S.f_Vols,vi a1.f_S.f_Last]] (rs29 r3)),(((r1.1 == a1.f_Now) == true) = true → CX Tryz.prog 14 [rs29 r2.1,rs29 r3] (vb r4)),(((bif (r1.1 == a1.f_Now) then r4 else false) == true) = true → CbOb (CallsB Tryz.prog) 32 [.own 1000000 0] (ph40 1010060 1010061 1010062 1010063 r2.2) ⟨[(1000000,1000000),(1010060,1010060),(1010061,1010061),(1010062,1010062),(1010063,1010063)],[(1000000,1000000),(1010060,1010060),(1010061,1010061),(1010062,1010062),(1010063,1010063)],[.own 1000000 0],(qh39 1000000 1010060 1010061 1010062 1010063 r2.2),rs16 r5.1,(qh39 1000000 1010060 1010061 1010062 1010063 r5.2)⟩),(((bif (r1.1 == a1.f_Now) then r4 else false) == true) = false → KeepOb (qh39 1000000 1010060 1010061 1010062 1010063 r2.2) ⟨[(1000000,1000000),(1010060,1010060),(1010061,1010061),(1010062,1010062),(1010063,1010063)],[(1000000,1000000),(1010060,1010060),(1010061,1010061),(1010062,1010062),(1010063,1010063)],[.own 1000000 0],(qh39 1000000 1010060 1010061 1010062 1010063 r2.2),rs16 r5.1,(qh39 1000000 1010060 1010061 1010062 1010063 r5.2)⟩),(((bif (r1.1 == a1.f_Now) then r4 else false) == true) = true → CX Tryz.prog 19 [rs16 a1.f_S.f_Nets] (rs16 r6)),(((bif (r1.1 == a1.f_Now) then r4 else false) == true) = true → CX Tryz.prog 17 [rs16 r5.1,rs16 r6] (vb r7)),(((bif (bif (r1.1 == a1.f_Now) then r4 else false) then r7 else false) == true) = true → CbOb (CallsB Tryz.prog) 33 [.own 1000000 0] (ph40 1010060 1010061 1010062 1010063 r5.2) ⟨[(1000000,1000000),(1010060,1010060),(1010061,1010061),(1010062,1010062),(1010063,1010063)],[(1000000,1000000),(1010060,1010060),(1010061,1010061),(1010062,1010062),(1010063,1010063)],[.own 1000000 0],(qh39 1000000 1010060 1010061 1010062 1010063 r5.2),rs16 r8.1,(qh39 1000000 1010060 1010061 1010062 1010063 r8.2)⟩),(((bif (bif (r1.1 == a1.f_Now) then r4 else false) then r7 else false) == true) = false → KeepOb (qh39 1000000 1010060 1010061 1010062 1010063 r5.2) ⟨[(1000000,1000000),(1010060,1010060),(1010061,1010061),(1010062,1010062),(1010063,1010063)],[(1000000,1000000),(1010060,1010060),(1010061,1010061),(1010062,1010062),(1010063,1010063)],[.own 1000000 0],(qh39 1000000 1010060 1010061 1010062 1010063 r5.2),rs16 r8.1,(qh39 1000000 1010060 1010061 1010062 1010063 r8.2)⟩),(((bif (bif (r1.1 == a1.f_Now) then r4 else false) then r7 else false) == true) = true → CX Tryz.prog 19 [rs16 a1.f_S.f_Vols] (rs16 r9)),(((bif (bif (r1.1 == a1.f_Now) then r4 else false) then r7 else false) == true) = true → CX Tryz.prog 17 [rs16 r8.1,rs16 r9] (vb r10))]) (by kernel_rfl) (by kernel_rfl) (AllP.cons (⟨(ok_host_Host_Now__o0 h0 _ hr1),by kernel_rfl,by kernel_rfl⟩) (AllP.cons (fun hg=>⟨(ok_host_Host_Boxes__o0 n r1.2 _ (if_t hg hr2)),by kernel_rfl,by kernel_rfl⟩) (AllP.cons (fun hg=>by cases if_f hg hr2; exact keepOb (by kernel_rfl)) (AllP.cons (fun hg=>cx (ok_ref33_Seen n a1.f_S _ (if_t hg hr3))) (AllP.cons (fun hg=>cx (ok_law33_SameBoxes n r2.1 r3 _ (if_t hg hr4))) (AllP.cons (fun hg=>⟨(ok_host_Host_Nets__o0 n r2.2 _ (if_t hg hr5)),by kernel_rfl,by kernel_rfl⟩) (AllP.cons (fun hg=>by cases if_f hg hr5; exact keepOb (by kernel_rfl)) (AllP.cons (fun hg=>cx (ok_ref33_Listed n a1.f_S.f_Nets _ (if_t hg hr6))) (AllP.cons (fun hg=>cx (ok_ref33_SameKept n r5.1 r6 _ (if_t hg hr7))) (AllP.cons (fun hg=>⟨(ok_host_Host_Vols__o0 n r5.2 _ (if_t hg hr8)),by kernel_rfl,by kernel_rfl⟩) (AllP.cons (fun hg=>by cases if_f hg hr8; exact keepOb (by kernel_rfl)) (AllP.cons (fun hg=>cx (ok_ref33_Listed n a1.f_S.f_Vols _ (if_t hg hr9))) (AllP.cons (fun hg=>cx (ok_ref33_SameKept n r8.1 r9 _ (if_t hg hr10))) AllP.nil))))))))))))) ?_
 refine To.thenN (Wp.ret ?_)
 cases h
 exact To.doneB hΓ [1000000,1010060,1010061,1010062,1010063] (by kernel_rfl) (by kernel_rfl)
def law35_HostPlays_l1 (n:Nat) (v1:List (S_law35_Deed)):Nat → Int → S_ref35_Host → S_host_Host → Option (Sum (Unit) (Bool))
 | 0,_,_,_=>none
 | k + 1,v7,b6,b21=>if (decide (v7 < (List.length v1:Int))) = true then (if (decide (0 ≤ v7 ∧ v7 < (List.length v1:Int))) = true then ((law35_step__o0 n b6 ((v1)[Int.toNat v7]?.getD Z_law35_Deed) b21).bind fun r7 =>
 ((if ((!r7.2.1) == false) = true then law35_Alike__o0 n r7.1 r7.2.2 else some (false,r7.2.2))).bind fun r8 =>
 if (bif (!r7.2.1) then true else (!r8.1)) = true then (some (.inr false))
 else (law35_HostPlays_l1 n v1 k (IntKind.wrap .i64 (v7 + 1)) r7.1 r8.2)) else none)
 else (some (.inl ()))
theorem ok_law35_HostPlays_l1 (n:Nat) (v1:List (S_law35_Deed)) {F0:Fz} {w0:Pt Tryz.prog} {Q:Exit → Act → World → Prop} (k:Nat):∀ (v7:Int) (b6:S_ref35_Host) (b21:S_host_Host) (o:Sum (Unit) (Bool)),law35_HostPlays_l1 n v1 k v7 b6 b21 = some o → (Sum.elim (fun s=>To 50 F0 w0 [] [] (.exit 0) Q) (fun s=>To 50 F0 w0 [(4,vb s)] [] .ret Q)) o → WL Tryz.prog 50 F0 w0 [(1,rs45 v1),(5,.own 21 0),(6,.own 6 0),(7,vi v7)] ((6,89,(E_ref35_Host b6))::qh39 21 700842 700843 700844 700845 b21) (cI (cI (cB (cA (cB (cB (cB (cF Tryz.f6)))))))) Q:=by
 induction k with
 | zero=>intro v7 b6 b21 o h; cases h
 | succ k ih =>
  intro v7 b6 b21 o h hQ
  rw [law35_HostPlays_l1] at h
  refine WL.round (Wp.seq (Wp.seq (rg [1,5,6,7,27] [6,21,700842,700843,700844,700845] [(1,rs45 v1),(5,.own 21 0),(6,.own 6 0),(7,vi v7),(27,vb (decide (v7 < (List.length v1:Int))))] ((6,89,(E_ref35_Host b6))::qh39 21 700842 700843 700844 700845 b21) (To.thenN (cn h (fun h=>?_) (fun h=>?_))))))
  ·refine Wp.skip (To.thenN (Wp.seq (Wp.block (Wp.seq ?_))))
   obtain ⟨hc9,h⟩:=chk_of h
   obtain ⟨r7,hr7,h⟩:=bind_of h
   refine Wp.regionO hm hΓ [] [] [(6,⟨[(1000000,21),(1010060,700842),(1010061,700843),(1010062,700844),(1010063,700845)],[(1000000,21),(1010060,700842),(1010061,700843),(1010062,700844),(1010063,700845)],[.own 1000000 0,.agg (qc47 b6),.agg [vi ((ex47 v1 v7).f_Kind),vi ((ex47 v1 v7).f_N),vi ((ex47 v1 v7).f_M),vi ((ex47 v1 v7).f_Call.f_Kind),.str ((ex47 v1 v7).f_Call.f_Name),vi ((ex47 v1 v7).f_Call.f_Id),.str ((ex47 v1 v7).f_Call.f_Spec.f_Name),.str ((ex47 v1 v7).f_Call.f_Spec.f_Project),.str ((ex47 v1 v7).f_Call.f_Spec.f_Service),vi ((ex47 v1 v7).f_Call.f_Spec.f_Number),.str ((ex47 v1 v7).f_Call.f_Spec.f_Hash),ls ((ex47 v1 v7).f_Call.f_Spec.f_Nets),ls ((ex47 v1 v7).f_Call.f_Spec.f_Vols),.str (ex74 v1 v7),vi (ex73 v1 v7),vi ((ex47 v1 v7).f_Call.f_Spec.f_Health.f_Start),vi ((ex47 v1 v7).f_Call.f_Spec.f_Health.f_Retries),vi ((ex47 v1 v7).f_Call.f_Spec.f_Restart),vi ((ex47 v1 v7).f_Call.f_Spec.f_Tries)]],(ex45 b21),.tup [.agg (qc47 r7.1),vb r7.2.1],(qh39 1000000 1010060 1010061 1010062 1010063 r7.2.2)⟩)] [1,5,6,7,8,9,27,30,31,32,33,34,35,36,37,38,39] [6,8,21,700842,700843,700844,700845] [1,5,6,7,8,9] [6,8,21,700842,700843,700844,700845] (K':=[(1,rs45 v1),(5,.own 21 0),(6,.own 6 0),(7,vi v7),(8,.own 8 0),(9,vb r7.2.1)]) (L':=((6,89,(E_ref35_Host b6))::(8,89,(E_ref35_Host r7.1))::qh39 21 700842 700843 700844 700845 r7.2.2)) (ob:=[(decide (ex48 v7 v1)) = true,CbOb (CallsB Tryz.prog) 42 [.own 21 0,.agg (qc47 b6),.agg [vi ((ex47 v1 v7).f_Kind),vi ((ex47 v1 v7).f_N),vi ((ex47 v1 v7).f_M),vi ((ex47 v1 v7).f_Call.f_Kind),.str ((ex47 v1 v7).f_Call.f_Name),vi ((ex47 v1 v7).f_Call.f_Id),.str ((ex47 v1 v7).f_Call.f_Spec.f_Name),.str ((ex47 v1 v7).f_Call.f_Spec.f_Project),.str ((ex47 v1 v7).f_Call.f_Spec.f_Service),vi ((ex47 v1 v7).f_Call.f_Spec.f_Number),.str ((ex47 v1 v7).f_Call.f_Spec.f_Hash),ls ((ex47 v1 v7).f_Call.f_Spec.f_Nets),ls ((ex47 v1 v7).f_Call.f_Spec.f_Vols),.str (ex74 v1 v7),vi (ex73 v1 v7),vi ((ex47 v1 v7).f_Call.f_Spec.f_Health.f_Start),vi ((ex47 v1 v7).f_Call.f_Spec.f_Health.f_Retries),vi ((ex47 v1 v7).f_Call.f_Spec.f_Restart),vi ((ex47 v1 v7).f_Call.f_Spec.f_Tries)]] (ph40 700842 700843 700844 700845 b21) ⟨[(1000000,21),(1010060,700842),(1010061,700843),(1010062,700844),(1010063,700845)],[(1000000,21),(1010060,700842),(1010061,700843),(1010062,700844),(1010063,700845)],[.own 1000000 0,.agg (qc47 b6),.agg [vi ((ex47 v1 v7).f_Kind),vi ((ex47 v1 v7).f_N),vi ((ex47 v1 v7).f_M),vi ((ex47 v1 v7).f_Call.f_Kind),.str ((ex47 v1 v7).f_Call.f_Name),vi ((ex47 v1 v7).f_Call.f_Id),.str ((ex47 v1 v7).f_Call.f_Spec.f_Name),.str ((ex47 v1 v7).f_Call.f_Spec.f_Project),.str ((ex47 v1 v7).f_Call.f_Spec.f_Service),vi ((ex47 v1 v7).f_Call.f_Spec.f_Number),.str ((ex47 v1 v7).f_Call.f_Spec.f_Hash),ls ((ex47 v1 v7).f_Call.f_Spec.f_Nets),ls ((ex47 v1 v7).f_Call.f_Spec.f_Vols),.str (ex74 v1 v7),vi (ex73 v1 v7),vi ((ex47 v1 v7).f_Call.f_Spec.f_Health.f_Start),vi ((ex47 v1 v7).f_Call.f_Spec.f_Health.f_Retries),vi ((ex47 v1 v7).f_Call.f_Spec.f_Restart),vi ((ex47 v1 v7).f_Call.f_Spec.f_Tries)]],(ex45 b21),.tup [.agg (qc47 r7.1),vb r7.2.1],(qh39 1000000 1010060 1010061 1010062 1010063 r7.2.2)⟩]) (by kernel_rfl) (by kernel_rfl) (AllP.cons hc9 (AllP.cons (⟨(ok_law35_step__o0 n b6 (ex47 v1 v7) b21 _ hr7),by kernel_rfl,by kernel_rfl⟩) AllP.nil)) ?_
   refine To.thenN (Wp.seq (rg [1,5,6,7,9] [6,21,700842,700843,700844,700845] [(1,rs45 v1),(5,.own 21 0),(6,.own 6 0),(7,vi v7),(9,vb r7.2.1)] ((6,89,(E_ref35_Host r7.1))::qh39 21 700842 700843 700844 700845 r7.2.2) (To.thenN (Wp.seq ?_))))
   obtain ⟨r8,hr8,h⟩:=bind_of h
   refine rr [] [] [(5,⟨[(1000000,21),(1010060,700842),(1010061,700843),(1010062,700844),(1010063,700845)],[(1000000,21),(1010060,700842),(1010061,700843),(1010062,700844),(1010063,700845)],[.own 1000000 0,.agg (qc47 r7.1)],(qh39 1000000 1010060 1010061 1010062 1010063 r7.2.2),vb r8.1,(qh39 1000000 1010060 1010061 1010062 1010063 r8.2)⟩)] [1,5,6,7,48] [6,21,700842,700843,700844,700845] [(1,rs45 v1),(5,.own 21 0),(6,.own 6 0),(7,vi v7),(48,vb (bif (!r7.2.1) then true else (!r8.1)))] ((6,89,(E_ref35_Host r7.1))::qh39 21 700842 700843 700844 700845 r8.2) [(((!r7.2.1) == false) = true → CbOb (CallsB Tryz.prog) 43 [.own 21 0,.agg (qc47 r7.1)] (ph40 700842 700843 700844 700845 r7.2.2) ⟨[(1000000,21),(1010060,700842),(1010061,700843),(1010062,700844),(1010063,700845)],[(1000000,21),(1010060,700842),(1010061,700843),(1010062,700844),(1010063,700845)],[.own 1000000 0,.agg (qc47 r7.1)],(qh39 1000000 1010060 1010061 1010062 1010063 r7.2.2),vb r8.1,(qh39 1000000 1010060 1010061 1010062 1010063 r8.2)⟩),(((!r7.2.1) == false) = false → KeepOb (qh39 21 700842 700843 700844 700845 r7.2.2) ⟨[(1000000,21),(1010060,700842),(1010061,700843),(1010062,700844),(1010063,700845)],[(1000000,21),(1010060,700842),(1010061,700843),(1010062,700844),(1010063,700845)],[.own 1000000 0,.agg (qc47 r7.1)],(qh39 1000000 1010060 1010061 1010062 1010063 r7.2.2),vb r8.1,(qh39 1000000 1010060 1010061 1010062 1010063 r8.2)⟩)] (AllP.cons (fun hg=>⟨(ok_law35_Alike__o0 n r7.1 r7.2.2 _ (if_t hg hr8)),by kernel_rfl,by kernel_rfl⟩) (AllP.cons (fun hg=>by cases if_f hg hr8; exact keepOb (by kernel_rfl)) AllP.nil)) ?_
   refine To.thenN (cn h (fun h=>?_) (fun h=>?_))
   ·refine Wp.seq (rg [4] [] [(4,vb false)] [] (To.thenN (Wp.ret (To.blockR (To.thenR (To.thenR ?_))))))
    cases h
    exact hQ
   ·refine Wp.skip (To.blockN (To.thenN (rg [1,5,6,7] [6,21,700842,700843,700844,700845] [(1,rs45 v1),(5,.own 21 0),(6,.own 6 0),(ex19 v7)] ((6,89,(E_ref35_Host r7.1))::qh39 21 700842 700843 700844 700845 r8.2) (kt [1,5,6,7] [6,21,700842,700843,700844,700845] [(1,rs45 v1),(5,.own 21 0),(6,.own 6 0),(ex19 v7)] ((6,89,(E_ref35_Host r7.1))::qh39 21 700842 700843 700844 700845 r8.2) (To.again ?_)))))
    exact ih (IntKind.wrap .i64 (v7 + 1)) r7.1 r8.2 _ h hQ
  ·refine Wp.exit (To.thenX (To.thenX (kt [] [] [] [] ?_)))
   cases h
   exact hQ
def law35_HostPlays (n:Nat) (a0:List (S_fault_Gap)) (a1:List (S_law35_Deed)):Option (Bool) :=
 (law34_Small n a0).bind fun r1 =>
 ((if ((!r1) == false) = true then law35_Few n a1 60 else some false)).bind fun r2 =>
 if (bif (!r1) then true else (!r2)) = true then ((law35_awake n).bind fun r3 =>
 some r3)
 else ((law35_gaps n a0).bind fun r4 =>
 (host_New_o n r4).bind fun r5 =>
 (ref35_New n a0).bind fun r6 =>
 (law35_HostPlays_l1 n a1 n 0 r6 r5).bind fun o7 =>
 (Sum.elim (fun o7=>(law35_awake n).bind fun r8 =>
 some r8) (fun o7=>some o7)) o7)
theorem ok_law35_HostPlays (n:Nat) (a0:List (S_fault_Gap)) (a1:List (S_law35_Deed)) (r:Bool) (h:law35_HostPlays n a0 a1 = some r):CallsX Tryz.prog 6 [rs32 a0,rs45 a1] (vb r):=by
 unfold law35_HostPlays at h
 refine xo Tryz.f6 rfl fun F0 w0 _=>?_
 refine Wp.seq (rg [0,1] [] [(0,rs32 a0),(1,rs45 a1)] [] (To.thenN (Wp.seq (Wp.seq ?_))))
 obtain ⟨r1,hr1,h⟩:=bind_of h
 obtain ⟨r2,hr2,h⟩:=bind_of h
 refine rr [] [(1,vb r1),(5,vb r2)] [] [0,1,17] [] [(0,rs32 a0),(1,rs45 a1),(17,vb (bif (!r1) then true else (!r2)))] [] [_,(((!r1) == false) = true → CX Tryz.prog 35 [rs45 a1,vi 60] (vb r2))] (AllP.cons (c1 (ok_law34_Small n a0 _ hr1)) (AllP.cons (fun hg=>cx (ok_law35_Few n a1 60 _ (if_t hg hr2))) AllP.nil)) (To.thenN (cn h (fun h=>?_) (fun h=>?_)))
 ·refine Wp.seq ?_
  obtain ⟨r3,hr3,h⟩:=bind_of h
  refine rc [] 0 [4] [] [(4,vb r3)] [] (ok_law35_awake n  _ hr3) (To.thenN (Wp.ret (To.thenR ?_)))
  cases h
  exact To.done hΓ (by kernel_rfl)
 ·refine Wp.skip (To.thenN (Wp.seq ?_))
  obtain ⟨r4,hr4,h⟩:=bind_of h
  obtain ⟨r5,hr5,h⟩:=bind_of h
  obtain ⟨r6,hr6,h⟩:=bind_of h
  refine rr [] [(1,rs33 r4),(4,.agg (qc47 r6))] [(2,⟨[],[(1,21),(2,700842),(3,700843),(4,700844),(5,700845)],[rs33 r4],[],.own 1 0,(qh39 1 2 3 4 5 r5)⟩)] [1,5,6] [6,21,700842,700843,700844,700845] [(1,rs45 a1),(5,.own 21 0),(6,.own 6 0)] ((6,89,(E_ref35_Host r6))::qh39 21 700842 700843 700844 700845 r5) [_,CbOb (CallsB Tryz.prog) 27 [rs33 r4] [] ⟨[],[(1,21),(2,700842),(3,700843),(4,700844),(5,700845)],[rs33 r4],[],.own 1 0,(qh39 1 2 3 4 5 r5)⟩,_] (AllP.cons (c1 (ok_law35_gaps n a0 _ hr4)) (AllP.cons (⟨(ok_host_New_o n r4 _ hr5),by kernel_rfl,by kernel_rfl⟩) (AllP.cons (c1 (ok_ref35_New n a0 _ hr6)) AllP.nil))) ?_
  refine To.thenN (Wp.seq (Wp.seq (rg [1,5,6,7] [6,21,700842,700843,700844,700845] [(1,rs45 a1),(5,.own 21 0),(6,.own 6 0),(7,vi 0)] ((6,89,(E_ref35_Host r6))::qh39 21 700842 700843 700844 700845 r5) (To.thenN (Wp.block ?_)))))
  obtain ⟨o7,ho7,h⟩:=bind_of h
  refine kw [1,5,6,7] [6,21,700842,700843,700844,700845] [(1,rs45 a1),(5,.own 21 0),(6,.own 6 0),(7,vi 0)] ((6,89,(E_ref35_Host r6))::qh39 21 700842 700843 700844 700845 r5) (Wp.loopL (ok_law35_HostPlays_l1 n a1 n 0 r6 r5 o7 ho7 ?_))
  rcases o7 with o7 | o7
  ·replace h:=sum_l h
   refine To.blockX (To.thenN (Wp.seq ?_))
   obtain ⟨r8,hr8,h⟩:=bind_of h
   refine rc [] 0 [4] [] [(4,vb r8)] [] (ok_law35_awake n  _ hr8) (To.thenN (Wp.ret ?_))
   cases h
   exact To.done hΓ (by kernel_rfl)
  ·replace h:=sum_r h
   refine To.blockR (To.thenR ?_)
   cases h
   exact To.done hΓ (by kernel_rfl)
structure S_api_Var where
 f_Key:List UInt8
 f_Val:List UInt8
structure S_api_Port where
 f_Host:List UInt8
 f_Out:Int
 f_In:Int
 f_Proto:List UInt8
structure S_api_Mount where
 f_Source:List UInt8
 f_Target:List UInt8
 f_ReadOnly:Bool
structure S_api_Dep where
 f_Service:List UInt8
 f_Cond:Int
 f_Restart:Bool
 f_Required:Bool
structure S_api_Service where
 f_Name:List UInt8
 f_Image:List UInt8
 f_Command:List (List UInt8)
 f_Env:List (S_api_Var)
 f_Labels:List (S_api_Var)
 f_Ports:List (S_api_Port)
 f_Mounts:List (S_api_Mount)
 f_Nets:List (List UInt8)
 f_Deps:List (S_api_Dep)
 f_Replicas:Int
 f_Health:S_api_Check
 f_Restart:Int
 f_Tries:Int
 f_Cpus:Int
 f_Mem:Int
structure S_view_Seen where
 f_Boxes:List (S_api_Container)
 f_Nets:List (S_api_Kept)
 f_Vols:List (S_api_Kept)
end Go.Proofs.YtaecmkldkljioaaGreat.M
