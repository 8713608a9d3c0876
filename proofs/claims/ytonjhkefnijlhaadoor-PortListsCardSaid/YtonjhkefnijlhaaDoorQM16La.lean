/-
  Part of the proof of PortLists: M16La.
-/
import Derived.Test.YtonjhkefnijlhaaDoorQRxAnyD
import Derived.Test.YtonjhkefnijlhaaDoorQRxArgs
import Derived.Test.YtonjhkefnijlhaaDoorQRxGoto
import Derived.Test.YtonjhkefnijlhaaDoorQRxNil
import Derived.Test.YtonjhkefnijlhaaDoorQRxOrd
import Derived.Test.YtonjhkefnijlhaaDoorQRxEqArr
import Derived.Test.YtonjhkefnijlhaaDoorQRxEnd
import Derived.Test.YtonjhkefnijlhaaDoorQSh16L
import Derived.Test.YtonjhkefnijlhaaDoorQRxCompK
import Derived.Test.YtonjhkefnijlhaaDoorQComp16
import Derived.Test.YtonjhkefnijlhaaDoorQOrd16
import Derived.Test.YtonjhkefnijlhaaDoorQLay16
import Derived.Test.YtonjhkefnijlhaaDoorProg
set_option linter.all false
namespace Go.Proofs.YtonjhkefnijlhaaDoor.M
open Go.RowKit Go.Proofs.YtonjhkefnijlhaaDoor.RX
set_option maxRecDepth 100000
def tab : List (Nat × TI) := [
  (3, { agg := false, size := 1, zero := [.int .i64 0], kind := .int .i64, eqs := [] }),
  (4, { agg := false, size := 1, zero := [.bool false], kind := .bool, eqs := [] }),
  (5, { agg := false, size := 1, zero := [.int .u8 0], kind := .int .u8, eqs := [] }),
  (9, { agg := false, size := 1, zero := [.string ⟨#[]⟩], kind := .str, eqs := [] }),
  (24, { agg := true, size := 4, zero := [.string ⟨#[]⟩, .int .i64 0, .int .i64 0, .string ⟨#[]⟩], kind := .struct [(0, 1, false), (1, 1, false), (2, 1, false), (3, 1, false)], eqs := [2, 0, 0, 2] }),
  (31, { agg := false, size := 1, zero := [.slice none 0 0], kind := .slice 1 false, elt := 9, eb := 16, ez := [.string ⟨#[]⟩], ek := none, eqs := [] }),
  (39, { agg := false, size := 1, zero := [.slice none 0 0], kind := .slice 4 true, elt := 24, eb := 48, ez := [.string ⟨#[]⟩, .int .i64 0, .int .i64 0, .string ⟨#[]⟩], ek := none, eqs := [] }),
  (54, { agg := false, size := 1, zero := [.slice none 0 0], kind := .slice 1 false, elt := 5, eb := 1, ez := [.int .u8 0], ek := some .u8, eqs := [] }),
  (65, { agg := false, size := 1, zero := [.int .u64 0], kind := .int .u64, eqs := [] }),
  (67, { agg := true, size := 20, zero := [.int .u8 0, .int .u8 0, .int .u8 0, .int .u8 0, .int .u8 0, .int .u8 0, .int .u8 0, .int .u8 0, .int .u8 0, .int .u8 0, .int .u8 0, .int .u8 0, .int .u8 0, .int .u8 0, .int .u8 0, .int .u8 0, .int .u8 0, .int .u8 0, .int .u8 0, .int .u8 0], kind := .array 20 1 false, eqs := [] })]
theorem tabOK : TabOK Tryd.prog tab := ⟨⟨by kernel_rfl, fun h => absurd rfl h⟩, ⟨by kernel_rfl, fun h => absurd rfl h⟩, ⟨by kernel_rfl, fun h => absurd rfl h⟩, ⟨by kernel_rfl, fun h => absurd rfl h⟩, ⟨by kernel_rfl, fun _ => eqCells_of (by kernel_rfl)⟩, ⟨by kernel_rfl, fun h => absurd rfl h⟩, ⟨by kernel_rfl, fun h => absurd rfl h⟩, ⟨by kernel_rfl, fun h => absurd rfl h⟩, ⟨by kernel_rfl, fun h => absurd rfl h⟩, ⟨by kernel_rfl, fun h => absurd rfl h⟩, trivial⟩
theorem hΓ : ΓOK Tryd.prog (tabΓ tab) := ΓOK.of tabOK
theorem hm : Tryd.prog.follows .mixedOrders = true := by kernel_rfl
structure S_api_Port where
  f_Host : List UInt8
  f_Out : Int
  f_In : Int
  f_Proto : List UInt8
def E_api_Port : S_api_Port → List D := fun x => [.str x.f_Host, .val (.int .i64 x.f_Out), .val (.int .i64 x.f_In), .str x.f_Proto]
section
open Go.RowKit Go.Shelf Go.Lib Go.Sort Go.Proofs.YtonjhkefnijlhaaDoor.CK
instance : DecidableEq S_api_Port := fun x y =>
  if h : x.f_Host = y.f_Host ∧ x.f_Out = y.f_Out ∧ x.f_In = y.f_In ∧ x.f_Proto = y.f_Proto then
    isTrue (by
      obtain ⟨a, b, c, d⟩ := x
      obtain ⟨a', b', c', d'⟩ := y
      obtain ⟨h1, h2, h3, h4⟩ := h
      cases h1; cases h2; cases h3; cases h4; rfl)
  else isFalse (fun e => h (by cases e; exact ⟨rfl, rfl, rfl, rfl⟩))
instance : Inhabited S_api_Port := ⟨S_api_Port.mk [] 0 0 []⟩
def encV16 (x : S_api_Port) : List Value := [.string ⟨x.f_Host.toArray⟩, .int .i64 x.f_Out, .int .i64 x.f_In, .string ⟨x.f_Proto.toArray⟩]
theorem raw16 : RawEnc E_api_Port encV16 4 where
  pos := by decide
  lenV := fun _ => rfl
  len := fun _ => rfl
  one := fun x v hv => by
    simp only [encV16, List.mem_cons, List.not_mem_nil, or_false] at hv
    rcases hv with rfl | rfl | rfl | rfl <;> rfl
  rep := fun F w B x => .cons _ _ _ _ (.str _) (.cons _ _ _ _ (.val _ rfl) (.cons _ _ _ _ (.val _ rfl) (.cons _ _ _ _ (.str _) .nil)))
  uniq := fun F w B x vs h => by
    cases h with
    | cons _ _ _ _ h1 h => cases h with
      | cons _ _ _ _ h2 h => cases h with
        | cons _ _ _ _ h3 h => cases h with
          | cons _ _ _ _ h4 h => cases h; cases h1; cases h2; cases h3; cases h4; rfl
theorem eqPort16 (x y : S_api_Port) : cmpCells [2, 0, 0, 2] (E_api_Port x) (E_api_Port y) = some (decide (x = y)) := by
  have hd : decide (x = y) = (decide (x.f_Host = y.f_Host) && (decide (x.f_Out = y.f_Out) && (decide (x.f_In = y.f_In) && decide (x.f_Proto = y.f_Proto)))) := by
    obtain ⟨a, b, c, d⟩ := x
    obtain ⟨a', b', c', d'⟩ := y
    rw [Bool.eq_iff_iff]; simp
  rw [hd]
  show some ((x.f_Host == y.f_Host) && ((x.f_Out == y.f_Out) && ((x.f_In == y.f_In) && (x.f_Proto == y.f_Proto)))) = _
  congr 1
  rw [Bool.eq_iff_iff]; simp
theorem eqRun16 (x y : S_api_Port) (w : World) : (∃ a b, (eqGuard .eql 24 a b (.agg (encV16 x).toArray) (.agg (encV16 y).toArray)).run Tryd.prog w = .ok () w) ∧ (Op.equal 24 (.agg (encV16 x).toArray) (.agg (encV16 y).toArray)).run Tryd.prog w = .ok (decide (x = y)) w := by
  have h := (eqCells_of (P := Tryd.prog) (t := 24) (ks := [2, 0, 0, 2]) (by kernel_rfl)) (fun _ _ => False) w w (fun _ => none) (fun _ => none) _ _ _ _ _ (raw16.rep _ w _ x) (raw16.rep _ w _ y) (eqPort16 x y)
  exact ⟨⟨_, _, h.1⟩, h.2⟩
theorem heq16 (x y : S_api_Port) (w : World) : Sem.run Tryd.prog (binOp .eql 24 (.agg (encV16 x).toArray) (.agg (encV16 y).toArray)) w = .ok (.bool (decide (x = y))) w := by
  simp only [Go.binOp, Sem.run_bind, (eqRun16 x y w).2, Result.andThen_ok, Sem.run_pure]
theorem hne16 (x y : S_api_Port) (w : World) : Sem.run Tryd.prog (binOp .neq 24 (.agg (encV16 x).toArray) (.agg (encV16 y).toArray)) w = .ok (.bool (!decide (x = y))) w := by
  simp only [Go.binOp, Sem.run_bind, (eqRun16 x y w).2, Result.andThen_ok, Sem.run_pure]
theorem hgd16 (op : BinOp) (ho : op = .eql ∨ op = .neq) (a b : Operand) (x y : S_api_Port) (w : World) : Sem.run Tryd.prog (eqGuard op 24 a b (.agg (encV16 x).toArray) (.agg (encV16 y).toArray)) w = .ok () w := by
  obtain ⟨⟨a', b', h⟩, _⟩ := eqRun16 x y w
  exact eqGuard_operands op 24 a b a' b' _ _ w w h ho
theorem compact52' (blk off cap : Nat) (dd : Array S_api_Port) (w : World) (hH : HoldsK encV16 4 w blk off dd) (hb : blk < w.heap.size) (hs : dd.size < 4611686018427387904) (hcap : dd.size ≤ cap) :
    Calls Tryd.prog 52 #[.slice (some ⟨blk, off, none⟩) dd.size cap] w fun e w' => e = .returned (.slice (some ⟨blk, off, none⟩) (compactUpTo dd dd.size).length cap) ∧ ∃ d' : Array S_api_Port, SWK encV16 4 w blk off d' w' ∧ d'.size = dd.size ∧ d'.toList.take (compactUpTo dd dd.size).length = compactUpTo dd dd.size :=
  compact52 encV16 raw16.lenV Tryd.isAgg24 Tryd.sizeOf24 heq16 hne16 (fun a b x y w => hgd16 .eql (.inl rfl) a b x y w) (fun a b x y w => hgd16 .neq (.inr rfl) a b x y w) (S_api_Port.mk [] 0 0 []) Tryd.zeroValue24 blk off cap dd w w
    ⟨raw16.lenV, raw16.one, hH, hb⟩ ⟨0, #[], by unfold sortWorldK; rw [grow_empty]; exact (putRowK_self encV16 4 w blk off dd hH).symm⟩ hs hcap
set_option maxHeartbeats 1000000 in
theorem compactNil (p : Option Addr) (cap : Nat) (w : World) : Calls Tryd.prog 52 #[.slice p 0 cap] w fun e w' => e = .returned (.slice p 0 cap) ∧ w' = w := by
  go_enter Tryd.func52, Tryd.ntmps52
  go_wp2
  go_ret
  exact ⟨rfl, rfl⟩
theorem compactK52 {l : List S_api_Port} (h : decide (List.length l * 5 ≤ limit) = true) : CallsB Tryd.prog 52 [.row LIM] [(LIM, 24, [.rowc false (α := S_api_Port) (S_api_Port.mk [] 0 0 []) E_api_Port l])] (.recs (α := S_api_Port) (S_api_Port.mk [] 0 0 []) E_api_Port (compactL l)) [] :=
  callsB_compactK ⟨Tryd.f52, by kernel_rfl, by kernel_rfl, by kernel_rfl⟩ raw16 compact52' compactNil h
def cmpL (x y : List UInt8) : Int := if Op.bytesLess x y = true then -1 else if x = y then 0 else 1
def cf51 (x y : S_api_Port) : Int := orI (Lib.compareInt x.f_In y.f_In) (cmpL x.f_Proto y.f_Proto) (cmpL x.f_Host y.f_Host) (Lib.compareInt x.f_Out y.f_Out)
theorem cmpL_eq (x y : List UInt8) : cmpL x y = if x < y then -1 else if x = y then 0 else 1 := by
  unfold cmpL
  have h : Op.bytesLess x y = decide (x < y) := by
    induction x generalizing y with
    | nil => cases y <;> simp [Op.bytesLess]
    | cons a x ih =>
      cases y with
      | nil => simp [Op.bytesLess]
      | cons b y =>
        rw [Op.bytesLess, ih, Bool.eq_iff_iff]
        simp only [Bool.or_eq_true, decide_eq_true_eq, Bool.and_eq_true, beq_iff_eq, List.cons_lt_cons_iff]
  rw [h]
  simp only [decide_eq_true_eq]
theorem lt51 (x y : S_api_Port) : ltOf cf51 x y = true ↔ x.f_In < y.f_In ∨ (x.f_In = y.f_In ∧ (x.f_Proto < y.f_Proto ∨ (x.f_Proto = y.f_Proto ∧ (x.f_Host < y.f_Host ∨ (x.f_Host = y.f_Host ∧ x.f_Out < y.f_Out))))) := by
  have tri : ∀ a b : List UInt8, a < b ∨ a = b ∨ b < a := fun a b => by
    rcases List.le_total a b with h | h
    · by_cases e : a = b
      · exact .inr (.inl e)
      · exact .inl (List.not_le.1 fun h' => e (List.le_antisymm h h'))
    · by_cases e : a = b
      · exact .inr (.inl e)
      · exact .inr (.inr (List.not_le.1 fun h' => e (List.le_antisymm h' h)))
  have irr : ∀ a : List UInt8, ¬ a < a := fun a => List.lt_irrefl a
  unfold ltOf cf51 orI
  rw [cmpL_eq, cmpL_eq]
  unfold Lib.compareInt
  rw [decide_eq_true_eq]
  rcases Int.lt_trichotomy x.f_In y.f_In with h | h | h
  · simp [h]
  · rw [h]
    rcases tri x.f_Proto y.f_Proto with h2 | h2 | h2
    · simp [h2]
    · rw [h2]
      rcases tri x.f_Host y.f_Host with h3 | h3 | h3
      · simp [h3, irr]
      · rw [h3]
        rcases Int.lt_trichotomy x.f_Out y.f_Out with h4 | h4 | h4
        · simp [h4, irr]
        · simp [h4, irr]
        · have : ¬ x.f_Out < y.f_Out := by omega
          simp [h4, this, irr]
      · have n1 : ¬ x.f_Host < y.f_Host := fun h' => irr _ (List.lt_trans h' h3)
        have n2 : ¬ x.f_Host = y.f_Host := fun e => irr _ (e ▸ h3)
        simp [n1, n2, irr]
    · have n1 : ¬ x.f_Proto < y.f_Proto := fun h' => irr _ (List.lt_trans h' h2)
      have n2 : ¬ x.f_Proto = y.f_Proto := fun e => irr _ (e ▸ h2)
      simp [n1, n2, irr]
  · have n1 : ¬ x.f_In < y.f_In := by omega
    have n2 : ¬ x.f_In = y.f_In := by omega
    simp [n1, n2, h]
def L51 (x y : S_api_Port) : Prop := x.f_In < y.f_In ∨ (x.f_In = y.f_In ∧ (x.f_Proto < y.f_Proto ∨ (x.f_Proto = y.f_Proto ∧ (x.f_Host < y.f_Host ∨ (x.f_Host = y.f_Host ∧ x.f_Out < y.f_Out)))))
theorem L51.trans {x y z : S_api_Port} (h : L51 x y) (k : L51 y z) : L51 x z := by
  unfold L51 at *
  rcases h with h | ⟨h, h2⟩ <;> rcases k with k | ⟨k, k2⟩
  · left; omega
  · left; omega
  · left; omega
  · right
    refine ⟨by omega, ?_⟩
    rcases h2 with h2 | ⟨h2, h3⟩ <;> rcases k2 with k2 | ⟨k2, k3⟩
    · left; exact List.lt_trans h2 k2
    · left; rw [← k2]; exact h2
    · left; rw [h2]; exact k2
    · right
      refine ⟨h2.trans k2, ?_⟩
      rcases h3 with h3 | ⟨h3, h4⟩ <;> rcases k3 with k3 | ⟨k3, k4⟩
      · left; exact List.lt_trans h3 k3
      · left; rw [← k3]; exact h3
      · left; rw [h3]; exact k3
      · right; exact ⟨h3.trans k3, by omega⟩
theorem L51.irrefl (x : S_api_Port) : ¬ L51 x x := by
  unfold L51
  rintro (h | ⟨_, h | ⟨_, h | ⟨_, h⟩⟩⟩)
  · omega
  · exact List.lt_irrefl _ h
  · exact List.lt_irrefl _ h
  · omega
theorem L51.tri (x y : S_api_Port) : L51 x y ∨ x = y ∨ L51 y x := by
  have tri : ∀ a b : List UInt8, a < b ∨ a = b ∨ b < a := fun a b => by
    rcases List.le_total a b with h | h
    · by_cases e : a = b
      · exact .inr (.inl e)
      · exact .inl (List.not_le.1 fun h' => e (List.le_antisymm h h'))
    · by_cases e : a = b
      · exact .inr (.inl e)
      · exact .inr (.inr (List.not_le.1 fun h' => e (List.le_antisymm h' h)))
  unfold L51
  rcases Int.lt_trichotomy x.f_In y.f_In with h | h | h
  · exact .inl (.inl h)
  · rcases tri x.f_Proto y.f_Proto with h2 | h2 | h2
    · exact .inl (.inr ⟨h, .inl h2⟩)
    · rcases tri x.f_Host y.f_Host with h3 | h3 | h3
      · exact .inl (.inr ⟨h, .inr ⟨h2, .inl h3⟩⟩)
      · rcases Int.lt_trichotomy x.f_Out y.f_Out with h4 | h4 | h4
        · exact .inl (.inr ⟨h, .inr ⟨h2, .inr ⟨h3, h4⟩⟩⟩)
        · refine .inr (.inl ?_)
          obtain ⟨a, b, c, d⟩ := x
          obtain ⟨a', b', c', d'⟩ := y
          dsimp only at h h2 h3 h4
          rw [h, h2, h3, h4]
        · exact .inr (.inr (.inr ⟨h.symm, .inr ⟨h2.symm, .inr ⟨h3.symm, h4⟩⟩⟩))
      · exact .inr (.inr (.inr ⟨h.symm, .inr ⟨h2.symm, .inl h3⟩⟩))
    · exact .inr (.inr (.inr ⟨h.symm, .inl h2⟩))
  · exact .inr (.inr (.inl h))
theorem ltL51 (x y : S_api_Port) : ltOf cf51 x y = true ↔ L51 x y := lt51 x y
theorem ltF51 (x y : S_api_Port) : ltOf cf51 x y = false ↔ ¬ L51 x y := by rw [← ltL51]; simp
theorem swo51 : SWO (ltOf cf51) where
  irrefl x := (ltF51 x x).2 (L51.irrefl x)
  trans x y z h1 h2 := (ltL51 x z).2 (((ltL51 x y).1 h1).trans ((ltL51 y z).1 h2))
  ntrans x y z h1 h2 := by
    rw [ltF51] at *
    intro h
    rcases L51.tri x y with k | k | k
    · exact h1 k
    · exact h2 (k ▸ h)
    · exact h2 (k.trans h)
theorem tot51 (x y : S_api_Port) (h1 : ltOf cf51 x y = false) (h2 : ltOf cf51 y x = false) : x = y := by
  rw [ltF51] at *
  rcases L51.tri x y with k | k | k
  · exact absurd k h1
  · exact k
  · exact absurd k h2
theorem cmpS_eq (x y : List UInt8) : cmpS ⟨x.toArray⟩ ⟨y.toArray⟩ = cmpL x y := by
  unfold cmpS cmpL
  simp
theorem cmpLays51 (blk off size : Nat) (w : World) : CmpLays Tryd.prog 51 #[] encV16 4 cf51 blk off size w := fun _ _ _ _ x y => by
  have := order51 ⟨x.f_Host.toArray⟩ ⟨y.f_Host.toArray⟩ ⟨x.f_Proto.toArray⟩ ⟨y.f_Proto.toArray⟩ x.f_Out y.f_Out x.f_In y.f_In
  rw [cmpS_eq, cmpS_eq] at this
  exact this _
theorem sortFunc50 {l : List S_api_Port} (h : decide (List.length l * 5 ≤ limit) = true) : CallsB Tryd.prog 50 [.row LIM, .fn 51 []] [(LIM, 24, [.rowc false (α := S_api_Port) (S_api_Port.mk [] 0 0 []) E_api_Port l])] (.tup []) [(LIM, 24, [.rowc false (α := S_api_Port) (S_api_Port.mk [] 0 0 []) E_api_Port (sortBy cf51 l)])] :=
  callsB_sortFunc ⟨Tryd.f50, by kernel_rfl, by kernel_rfl, by kernel_rfl⟩ raw16
    (fun blk off cap dd w hH hb hs => AnyQ.slices_SortFunc_total Tryd.sortPort 4 Tryd.isAgg24 Tryd.sizeOf24 encV16 raw16.lenV raw16.one cf51 swo51 51 #[] blk off cap dd w (enters_of Tryd.func51 (by kernel_rfl) rfl) (cmpLays51 blk off dd.size w) hH hb hs tot51)
    (fun p cap w => AnyF.slices_SortFunc_none Tryd.sortPort p cap _ w) h
end
def E_string : List UInt8 → List D := fun x => [.str x]
def digit_whole_j2 (n : Nat) (v0 : List UInt8) (v1 : Int) (v6 : Int) (v7 : Bool) (v23 : Int) (v24 : Int) : Option (Sum (Int × Bool) (Int × Int)) :=
  if (decide (0 ≤ v24 ∧ v24 < (List.length v0 : Int))) = true then (lett ((bif (decide ((IntKind.wrap .i64 ((IntKind.wrap .i64 ((((v0)[Int.toNat v24]?.getD 0).toNat : Int))) - 48)) < 0)) then true else (decide ((IntKind.wrap .i64 ((IntKind.wrap .i64 ((((v0)[Int.toNat v24]?.getD 0).toNat : Int))) - 48)) > 9))) : Bool) fun x2 =>
  if x2 = true then (some (.inr (0, 3)))
  else (if ((!(v7 == false) || (10 != 0))) = true then (lett ((bif (bif v7 then true else (decide (v6 > (IntKind.wrap .i64 (Int.tdiv (IntKind.wrap .i64 (v1 - (IntKind.wrap .i64 ((IntKind.wrap .i64 ((((v0)[Int.toNat v24]?.getD 0).toNat : Int))) - 48)))) 10))))) then true else (decide (v1 < (IntKind.wrap .i64 ((IntKind.wrap .i64 ((((v0)[Int.toNat v24]?.getD 0).toNat : Int))) - 48))))) : Bool) fun x3 =>
  if (!x3) = true then (lett ((IntKind.wrap .i64 ((IntKind.wrap .i64 (v6 * 10)) + (IntKind.wrap .i64 ((IntKind.wrap .i64 ((((v0)[Int.toNat v24]?.getD 0).toNat : Int))) - 48)))) : Int) fun x4 =>
  some (.inl (x4, x3)))
  else (some (.inl (v6, x3)))) else none)) else none
theorem ok_digit_whole_j2 (n : Nat) (v0 : List UInt8) (v1 : Int) (v6 : Int) (v7 : Bool) (v23 : Int) (v24 : Int) (o : Sum (Int × Bool) (Int × Int)) (h : digit_whole_j2 n v0 v1 v6 v7 v23 v24 = some o) {F0 : Fz} {w0 : Pt Tryd.prog} {Q : Exit → Act → World → Prop} (hQ : (Sum.elim (fun s => To 61 F0 w0 [(0, .str v0), (1, .val (.int .i64 v1)), (6, .val (.int .i64 s.1)), (7, .val (.bool s.2)), (23, .val (.int .i64 v23)), (24, .val (.int .i64 v24))] [] .normal Q) (fun s => To 61 F0 w0 [(4, .val (.int .i64 s.1)), (5, .val (.int .i64 s.2))] [] .ret Q)) o) : Wp Tryd.prog 61 F0 w0 [(0, .str v0), (1, .val (.int .i64 v1)), (6, .val (.int .i64 v6)), (7, .val (.bool v7)), (23, .val (.int .i64 v23)), (24, .val (.int .i64 v24))] [] (cA (cB (cB (cI (cI (cB (cA (cB (cB (cB (cF Tryd.f75))))))))))) Q := by
  unfold digit_whole_j2 at h
  refine Wp.block ?_
  refine Wp.seq ?_
  refine Wp.region hΓ [] [] [] [0, 1, 6, 7, 8, 23, 24] [] (K' := [(0, .str v0), (1, .val (.int .i64 v1)), (6, .val (.int .i64 v6)), (7, .val (.bool v7)), (8, .val (.int .i64 v24)), (23, .val (.int .i64 v23)), (24, .val (.int .i64 v24))]) (L' := []) (ob := []) (by kernel_rfl) AllP.nil ?_
  refine To.thenN ?_
  refine Wp.seq ?_
  obtain ⟨hc6, h⟩ := chk_of h
  refine Wp.region hΓ [] [] [] [0, 1, 6, 7, 9, 23, 24] [] (K' := [(0, .str v0), (1, .val (.int .i64 v1)), (6, .val (.int .i64 v6)), (7, .val (.bool v7)), (9, .val (.int .i64 (IntKind.wrap .i64 ((IntKind.wrap .i64 ((((v0)[Int.toNat v24]?.getD 0).toNat : Int))) - 48)))), (23, .val (.int .i64 v23)), (24, .val (.int .i64 v24))]) (L' := []) (ob := [(decide (0 ≤ v24 ∧ v24 < (List.length v0 : Int))) = true]) (by kernel_rfl) (AllP.cons hc6 AllP.nil) ?_
  refine To.thenN ?_
  refine Wp.seq ?_
  refine Wp.seq ?_
  obtain ⟨x2, hx2, h⟩ := lett_of h
  refine Wp.region hΓ [] [] [] [0, 1, 6, 7, 9, 23, 24, 37] [] (K' := [(0, .str v0), (1, .val (.int .i64 v1)), (6, .val (.int .i64 v6)), (7, .val (.bool v7)), (9, .val (.int .i64 (IntKind.wrap .i64 ((IntKind.wrap .i64 ((((v0)[Int.toNat v24]?.getD 0).toNat : Int))) - 48)))), (23, .val (.int .i64 v23)), (24, .val (.int .i64 v24)), (37, .val (.bool (bif (decide ((IntKind.wrap .i64 ((IntKind.wrap .i64 ((((v0)[Int.toNat v24]?.getD 0).toNat : Int))) - 48)) < 0)) then true else (decide ((IntKind.wrap .i64 ((IntKind.wrap .i64 ((((v0)[Int.toNat v24]?.getD 0).toNat : Int))) - 48)) > 9)))))]) (L' := []) (ob := []) (by kernel_rfl) AllP.nil ?_
  refine To.eq (K' := [(0, .str v0), (1, .val (.int .i64 v1)), (6, .val (.int .i64 v6)), (7, .val (.bool v7)), (9, .val (.int .i64 (IntKind.wrap .i64 ((IntKind.wrap .i64 ((((v0)[Int.toNat v24]?.getD 0).toNat : Int))) - 48)))), (23, .val (.int .i64 v23)), (24, .val (.int .i64 v24)), (37, .val (.bool x2))]) (L' := []) (by cases hx2; rfl) (by cases hx2; rfl) ?_
  refine To.thenN ?_
  refine Wp.cond (b := x2) (by kernel_rfl) (fun hb => ?_) (fun hb => ?_)
  · replace h := if_t hb h
    refine Wp.seq ?_
    refine Wp.region hΓ [] [] [] [4, 5] [] (K' := [(4, .val (.int .i64 0)), (5, .val (.int .i64 3))]) (L' := []) (ob := []) (by kernel_rfl) AllP.nil ?_
    refine To.thenN ?_
    refine Wp.ret ?_
    refine To.thenR ?_
    refine To.blockR ?_
    refine To.keep (kk := [4, 5]) (kl := []) (K' := [(4, .val (.int .i64 0)), (5, .val (.int .i64 3))]) (L' := []) (by kernel_rfl) (by kernel_rfl) ?_
    cases h
    exact hQ
  · replace h := if_f hb h
    refine Wp.skip ?_
    refine To.thenN ?_
    refine Wp.seq ?_
    obtain ⟨hc5, h⟩ := chk_of h
    obtain ⟨x3, hx3, h⟩ := lett_of h
    refine Wp.region hΓ [] [] [] [0, 1, 6, 7, 9, 23, 24] [] (K' := [(0, .str v0), (1, .val (.int .i64 v1)), (6, .val (.int .i64 v6)), (7, .val (.bool (bif (bif v7 then true else (decide (v6 > (IntKind.wrap .i64 (Int.tdiv (IntKind.wrap .i64 (v1 - (IntKind.wrap .i64 ((IntKind.wrap .i64 ((((v0)[Int.toNat v24]?.getD 0).toNat : Int))) - 48)))) 10))))) then true else (decide (v1 < (IntKind.wrap .i64 ((IntKind.wrap .i64 ((((v0)[Int.toNat v24]?.getD 0).toNat : Int))) - 48))))))), (9, .val (.int .i64 (IntKind.wrap .i64 ((IntKind.wrap .i64 ((((v0)[Int.toNat v24]?.getD 0).toNat : Int))) - 48)))), (23, .val (.int .i64 v23)), (24, .val (.int .i64 v24))]) (L' := []) (ob := [(!(v7 == false) || (10 != 0)) = true]) (by kernel_rfl) (AllP.cons hc5 AllP.nil) ?_
    refine To.eq (K' := [(0, .str v0), (1, .val (.int .i64 v1)), (6, .val (.int .i64 v6)), (7, .val (.bool x3)), (9, .val (.int .i64 (IntKind.wrap .i64 ((IntKind.wrap .i64 ((((v0)[Int.toNat v24]?.getD 0).toNat : Int))) - 48)))), (23, .val (.int .i64 v23)), (24, .val (.int .i64 v24))]) (L' := []) (by cases hx3; rfl) (by cases hx3; rfl) ?_
    refine To.thenN ?_
    refine Wp.seq ?_
    refine Wp.region hΓ [] [] [] [0, 1, 6, 7, 9, 23, 24, 53] [] (K' := [(0, .str v0), (1, .val (.int .i64 v1)), (6, .val (.int .i64 v6)), (7, .val (.bool x3)), (9, .val (.int .i64 (IntKind.wrap .i64 ((IntKind.wrap .i64 ((((v0)[Int.toNat v24]?.getD 0).toNat : Int))) - 48)))), (23, .val (.int .i64 v23)), (24, .val (.int .i64 v24)), (53, .val (.bool (!x3)))]) (L' := []) (ob := []) (by kernel_rfl) AllP.nil ?_
    refine To.thenN ?_
    refine Wp.cond (b := (!x3)) (by kernel_rfl) (fun hb => ?_) (fun hb => ?_)
    · replace h := if_t hb h
      obtain ⟨x4, hx4, h⟩ := lett_of h
      refine Wp.region hΓ [] [] [] [0, 1, 6, 7, 23, 24] [] (K' := [(0, .str v0), (1, .val (.int .i64 v1)), (6, .val (.int .i64 (IntKind.wrap .i64 ((IntKind.wrap .i64 (v6 * 10)) + (IntKind.wrap .i64 ((IntKind.wrap .i64 ((((v0)[Int.toNat v24]?.getD 0).toNat : Int))) - 48)))))), (7, .val (.bool x3)), (23, .val (.int .i64 v23)), (24, .val (.int .i64 v24))]) (L' := []) (ob := []) (by kernel_rfl) AllP.nil ?_
      refine To.eq (K' := [(0, .str v0), (1, .val (.int .i64 v1)), (6, .val (.int .i64 x4)), (7, .val (.bool x3)), (23, .val (.int .i64 v23)), (24, .val (.int .i64 v24))]) (L' := []) (by cases hx4; rfl) (by cases hx4; rfl) ?_
      refine To.blockN ?_
      refine To.keep (kk := [0, 1, 6, 7, 23, 24]) (kl := []) (K' := [(0, .str v0), (1, .val (.int .i64 v1)), (6, .val (.int .i64 x4)), (7, .val (.bool x3)), (23, .val (.int .i64 v23)), (24, .val (.int .i64 v24))]) (L' := []) (by kernel_rfl) (by kernel_rfl) ?_
      cases h
      exact hQ
    · replace h := if_f hb h
      refine Wp.skip ?_
      refine To.blockN ?_
      refine To.keep (kk := [0, 1, 6, 7, 23, 24]) (kl := []) (K' := [(0, .str v0), (1, .val (.int .i64 v1)), (6, .val (.int .i64 v6)), (7, .val (.bool x3)), (23, .val (.int .i64 v23)), (24, .val (.int .i64 v24))]) (L' := []) (by kernel_rfl) (by kernel_rfl) ?_
      cases h
      exact hQ
def digit_whole_l1 (n : Nat) (v0 : List UInt8) (v1 : Int) (v23 : Int) : Nat → Int → Bool → Int → Option (Sum (Int × Bool) (Int × Int))
  | 0, _, _, _ => none
  | k + 1, v6, v7, v24 => if (decide (v24 < v23)) = true then ((digit_whole_j2 n v0 v1 v6 v7 v23 v24).bind fun o2 =>
  (Sum.elim (fun o2 => digit_whole_l1 n v0 v1 v23 k o2.1 o2.2 (IntKind.wrap .i64 (v24 + 1))) (fun o2 => some (.inr (o2.1, o2.2)))) o2)
  else (some (.inl (v6, v7)))
theorem ok_digit_whole_l1 (n : Nat) (v0 : List UInt8) (v1 : Int) (v23 : Int) {F0 : Fz} {w0 : Pt Tryd.prog} {Q : Exit → Act → World → Prop} (k : Nat) : ∀ (v6 : Int) (v7 : Bool) (v24 : Int) (o : Sum (Int × Bool) (Int × Int)), digit_whole_l1 n v0 v1 v23 k v6 v7 v24 = some o → (Sum.elim (fun s => To 61 F0 w0 [(6, .val (.int .i64 s.1)), (7, .val (.bool s.2))] [] (.exit 0) Q) (fun s => To 61 F0 w0 [(4, .val (.int .i64 s.1)), (5, .val (.int .i64 s.2))] [] .ret Q)) o → WL Tryd.prog 61 F0 w0 [(0, .str v0), (1, .val (.int .i64 v1)), (6, .val (.int .i64 v6)), (7, .val (.bool v7)), (23, .val (.int .i64 v23)), (24, .val (.int .i64 v24))] [] (cI (cI (cB (cA (cB (cB (cB (cF Tryd.f75)))))))) Q := by
  induction k with
  | zero => intro v6 v7 v24 o h; cases h
  | succ k ih =>
    intro v6 v7 v24 o h hQ
    rw [digit_whole_l1] at h
    refine WL.round ?_
    refine Wp.seq ?_
    refine Wp.region hΓ [] [] [] [0, 1, 6, 7, 23, 24, 25] [] (K' := [(0, .str v0), (1, .val (.int .i64 v1)), (6, .val (.int .i64 v6)), (7, .val (.bool v7)), (23, .val (.int .i64 v23)), (24, .val (.int .i64 v24)), (25, .val (.bool (decide (v24 < v23))))]) (L' := []) (ob := []) (by kernel_rfl) AllP.nil ?_
    refine To.thenN ?_
    refine Wp.seq ?_
    refine Wp.cond (b := (decide (v24 < v23))) (by kernel_rfl) (fun hb => ?_) (fun hb => ?_)
    · replace h := if_t hb h
      refine Wp.skip ?_
      refine To.thenN ?_
      refine Wp.seq ?_
      obtain ⟨o2, ho2, h⟩ := bind_of h
      refine Wp.keep (kk := [0, 1, 6, 7, 23, 24]) (kl := []) (K' := [(0, .str v0), (1, .val (.int .i64 v1)), (6, .val (.int .i64 v6)), (7, .val (.bool v7)), (23, .val (.int .i64 v23)), (24, .val (.int .i64 v24))]) (L' := []) (by kernel_rfl) (by kernel_rfl) ?_
      refine ok_digit_whole_j2 n v0 v1 v6 v7 v23 v24 o2 ho2 ?_
      rcases o2 with o2 | o2
      · replace h := sum_l h
        refine To.thenN ?_
        refine Wp.region hΓ [] [] [] [0, 1, 6, 7, 23, 24] [] (K' := [(0, .str v0), (1, .val (.int .i64 v1)), (6, .val (.int .i64 o2.1)), (7, .val (.bool o2.2)), (23, .val (.int .i64 v23)), (24, .val (.int .i64 (IntKind.wrap .i64 (v24 + 1))))]) (L' := []) (ob := []) (by kernel_rfl) AllP.nil ?_
        refine To.keep (kk := [0, 1, 6, 7, 23, 24]) (kl := []) (K' := [(0, .str v0), (1, .val (.int .i64 v1)), (6, .val (.int .i64 o2.1)), (7, .val (.bool o2.2)), (23, .val (.int .i64 v23)), (24, .val (.int .i64 (IntKind.wrap .i64 (v24 + 1))))]) (L' := []) (by kernel_rfl) (by kernel_rfl) ?_
        refine To.again ?_
        exact ih o2.1 o2.2 (IntKind.wrap .i64 (v24 + 1)) _ h hQ
      · replace h := sum_r h
        refine To.thenR ?_
        refine To.thenR ?_
        refine To.keep (kk := [4, 5]) (kl := []) (K' := [(4, .val (.int .i64 o2.1)), (5, .val (.int .i64 o2.2))]) (L' := []) (by kernel_rfl) (by kernel_rfl) ?_
        cases h
        exact hQ
    · replace h := if_f hb h
      refine Wp.exit ?_
      refine To.thenX ?_
      refine To.thenX ?_
      refine To.keep (kk := [6, 7]) (kl := []) (K' := [(6, .val (.int .i64 v6)), (7, .val (.bool v7))]) (L' := []) (by kernel_rfl) (by kernel_rfl) ?_
      cases h
      exact hQ
def digit_whole (n : Nat) (a0 : List UInt8) (a1 : Int) : Option (Int × Int) :=
  if ((!(((decide ((List.length a0 : Int) > 1)) == true) && ((a0 == []) == false)) || decide (0 ≤ (0 : Int) ∧ (0 : Int) < (List.length a0 : Int)))) = true then (lett ((bif (a0 == []) then true else (bif (decide ((List.length a0 : Int) > 1)) then ((((a0)[Int.toNat 0]?.getD 0).toNat : Int) == 48) else false)) : Bool) fun x1 =>
  if x1 = true then (some (0, 3))
  else ((digit_whole_l1 n a0 a1 (List.length a0 : Int) n 0 false 0).bind fun o2 =>
  (Sum.elim (fun o2 => if o2.2 = true then (some (0, 9))
  else (some (o2.1, 0))) (fun o2 => some (o2.1, o2.2))) o2)) else none
theorem ok_digit_whole (n : Nat) (a0 : List UInt8) (a1 : Int) (r : Int × Int) (h : digit_whole n a0 a1 = some r) : CallsX Tryd.prog 75 [.str a0, .val (.int .i64 a1)] (.tup [.val (.int .i64 r.1), .val (.int .i64 r.2)]) := by
  unfold digit_whole at h
  refine callsX_of (fn := Tryd.f75) (by kernel_rfl) rfl (by kernel_rfl) (Nat.le_of_ble_eq_true (by kernel_rfl)) fun F0 w0 _ => ?_
  refine Wp.keep (kk := [0, 1]) (kl := []) (K' := [(0, .str a0), (1, .val (.int .i64 a1))]) (L' := []) (by kernel_rfl) (by kernel_rfl) ?_
  refine Wp.seq ?_
  refine Wp.region hΓ [] [] [] [0, 1] [] (K' := [(0, .str a0), (1, .val (.int .i64 a1))]) (L' := []) (ob := []) (by kernel_rfl) AllP.nil ?_
  refine To.thenN ?_
  refine Wp.seq ?_
  refine Wp.seq ?_
  obtain ⟨hc3, h⟩ := chk_of h
  obtain ⟨x1, hx1, h⟩ := lett_of h
  refine Wp.region hΓ [] [] [] [0, 1, 21] [] (K' := [(0, .str a0), (1, .val (.int .i64 a1)), (21, .val (.bool (bif (a0 == []) then true else (bif (decide ((List.length a0 : Int) > 1)) then ((((a0)[Int.toNat 0]?.getD 0).toNat : Int) == 48) else false))))]) (L' := []) (ob := [(!(((decide ((List.length a0 : Int) > 1)) == true) && ((a0 == []) == false)) || decide (0 ≤ (0 : Int) ∧ (0 : Int) < (List.length a0 : Int))) = true]) (by kernel_rfl) (AllP.cons hc3 AllP.nil) ?_
  refine To.eq (K' := [(0, .str a0), (1, .val (.int .i64 a1)), (21, .val (.bool x1))]) (L' := []) (by cases hx1; rfl) (by cases hx1; rfl) ?_
  refine To.thenN ?_
  refine Wp.cond (b := x1) (by kernel_rfl) (fun hb => ?_) (fun hb => ?_)
  · replace h := if_t hb h
    refine Wp.seq ?_
    refine Wp.region hΓ [] [] [] [4, 5] [] (K' := [(4, .val (.int .i64 0)), (5, .val (.int .i64 3))]) (L' := []) (ob := []) (by kernel_rfl) AllP.nil ?_
    refine To.thenN ?_
    refine Wp.ret ?_
    refine To.thenR ?_
    refine To.keep (kk := [4, 5]) (kl := []) (K' := [(4, .val (.int .i64 0)), (5, .val (.int .i64 3))]) (L' := []) (by kernel_rfl) (by kernel_rfl) ?_
    cases h
    exact To.done hΓ (by kernel_rfl)
  · replace h := if_f hb h
    refine Wp.skip ?_
    refine To.thenN ?_
    refine Wp.seq ?_
    refine Wp.region hΓ [] [] [] [0, 1, 6, 7] [] (K' := [(0, .str a0), (1, .val (.int .i64 a1)), (6, .val (.int .i64 0)), (7, .val (.bool false))]) (L' := []) (ob := []) (by kernel_rfl) AllP.nil ?_
    refine To.thenN ?_
    refine Wp.seq ?_
    refine Wp.seq ?_
    refine Wp.region hΓ [] [] [] [0, 1, 6, 7, 23, 24] [] (K' := [(0, .str a0), (1, .val (.int .i64 a1)), (6, .val (.int .i64 0)), (7, .val (.bool false)), (23, .val (.int .i64 (List.length a0 : Int))), (24, .val (.int .i64 0))]) (L' := []) (ob := []) (by kernel_rfl) AllP.nil ?_
    refine To.thenN ?_
    refine Wp.block ?_
    obtain ⟨o2, ho2, h⟩ := bind_of h
    refine Wp.keep (kk := [0, 1, 6, 7, 23, 24]) (kl := []) (K' := [(0, .str a0), (1, .val (.int .i64 a1)), (6, .val (.int .i64 0)), (7, .val (.bool false)), (23, .val (.int .i64 (List.length a0 : Int))), (24, .val (.int .i64 0))]) (L' := []) (by kernel_rfl) (by kernel_rfl) ?_
    refine Wp.loopL ?_
    refine ok_digit_whole_l1 n a0 a1 (List.length a0 : Int) n 0 false 0 o2 ho2 ?_
    rcases o2 with o2 | o2
    · replace h := sum_l h
      refine To.blockX ?_
      refine To.thenN ?_
      refine Wp.seq ?_
      refine Wp.seq ?_
      refine Wp.region hΓ [] [] [] [6, 59] [] (K' := [(6, .val (.int .i64 o2.1)), (59, .val (.bool o2.2))]) (L' := []) (ob := []) (by kernel_rfl) AllP.nil ?_
      refine To.thenN ?_
      refine Wp.cond (b := o2.2) (by kernel_rfl) (fun hb => ?_) (fun hb => ?_)
      · replace h := if_t hb h
        refine Wp.seq ?_
        refine Wp.region hΓ [] [] [] [4, 5] [] (K' := [(4, .val (.int .i64 0)), (5, .val (.int .i64 9))]) (L' := []) (ob := []) (by kernel_rfl) AllP.nil ?_
        refine To.thenN ?_
        refine Wp.ret ?_
        refine To.thenR ?_
        refine To.keep (kk := [4, 5]) (kl := []) (K' := [(4, .val (.int .i64 0)), (5, .val (.int .i64 9))]) (L' := []) (by kernel_rfl) (by kernel_rfl) ?_
        cases h
        exact To.done hΓ (by kernel_rfl)
      · replace h := if_f hb h
        refine Wp.skip ?_
        refine To.thenN ?_
        refine Wp.seq ?_
        refine Wp.region hΓ [] [] [] [4, 5] [] (K' := [(4, .val (.int .i64 o2.1)), (5, .val (.int .i64 0))]) (L' := []) (ob := []) (by kernel_rfl) AllP.nil ?_
        refine To.thenN ?_
        refine Wp.ret ?_
        refine To.keep (kk := [4, 5]) (kl := []) (K' := [(4, .val (.int .i64 o2.1)), (5, .val (.int .i64 0))]) (L' := []) (by kernel_rfl) (by kernel_rfl) ?_
        cases h
        exact To.done hΓ (by kernel_rfl)
    · replace h := sum_r h
      refine To.blockR ?_
      refine To.thenR ?_
      refine To.keep (kk := [4, 5]) (kl := []) (K' := [(4, .val (.int .i64 o2.1)), (5, .val (.int .i64 o2.2))]) (L' := []) (by kernel_rfl) (by kernel_rfl) ?_
      cases h
      exact To.done hΓ (by kernel_rfl)
def digit_Count (n : Nat) (a0 : List UInt8) (a1 : Int) : Option (Int × Int) :=
  if (decide (a1 < 0)) = true then (some (0, 2))
  else ((digit_whole n a0 a1).bind fun r1 =>
  some (r1.1, r1.2))
theorem ok_digit_Count (n : Nat) (a0 : List UInt8) (a1 : Int) (r : Int × Int) (h : digit_Count n a0 a1 = some r) : CallsX Tryd.prog 56 [.str a0, .val (.int .i64 a1)] (.tup [.val (.int .i64 r.1), .val (.int .i64 r.2)]) := by
  unfold digit_Count at h
  refine callsX_of (fn := Tryd.f56) (by kernel_rfl) rfl (by kernel_rfl) (Nat.le_of_ble_eq_true (by kernel_rfl)) fun F0 w0 _ => ?_
  refine Wp.keep (kk := [0, 1]) (kl := []) (K' := [(0, .str a0), (1, .val (.int .i64 a1))]) (L' := []) (by kernel_rfl) (by kernel_rfl) ?_
  refine Wp.seq ?_
  refine Wp.region hΓ [] [] [] [0, 1] [] (K' := [(0, .str a0), (1, .val (.int .i64 a1))]) (L' := []) (ob := []) (by kernel_rfl) AllP.nil ?_
  refine To.thenN ?_
  refine Wp.seq ?_
  refine Wp.seq ?_
  refine Wp.region hΓ [] [] [] [0, 1, 7] [] (K' := [(0, .str a0), (1, .val (.int .i64 a1)), (7, .val (.bool (decide (a1 < 0))))]) (L' := []) (ob := []) (by kernel_rfl) AllP.nil ?_
  refine To.thenN ?_
  refine Wp.cond (b := (decide (a1 < 0))) (by kernel_rfl) (fun hb => ?_) (fun hb => ?_)
  · replace h := if_t hb h
    refine Wp.seq ?_
    refine Wp.region hΓ [] [] [] [4, 5] [] (K' := [(4, .val (.int .i64 0)), (5, .val (.int .i64 2))]) (L' := []) (ob := []) (by kernel_rfl) AllP.nil ?_
    refine To.thenN ?_
    refine Wp.ret ?_
    refine To.thenR ?_
    refine To.keep (kk := [4, 5]) (kl := []) (K' := [(4, .val (.int .i64 0)), (5, .val (.int .i64 2))]) (L' := []) (by kernel_rfl) (by kernel_rfl) ?_
    cases h
    exact To.done hΓ (by kernel_rfl)
  · replace h := if_f hb h
    refine Wp.skip ?_
    refine To.thenN ?_
    refine Wp.seq ?_
    obtain ⟨r1, hr1, h⟩ := bind_of h
    refine Wp.region hΓ [] [(2, .tup [.val (.int .i64 r1.1), .val (.int .i64 r1.2)])] [] [4, 5] [] (K' := [(4, .val (.int .i64 r1.1)), (5, .val (.int .i64 r1.2))]) (L' := []) (ob := [(true = true → CX Tryd.prog 75 [.str a0, .val (.int .i64 a1)] (.tup [.val (.int .i64 r1.1), .val (.int .i64 r1.2)]))]) (by kernel_rfl) (AllP.cons (fun _ => cx (ok_digit_whole n a0 a1 _ hr1)) AllP.nil) ?_
    refine To.thenN ?_
    refine Wp.ret ?_
    refine To.keep (kk := [4, 5]) (kl := []) (K' := [(4, .val (.int .i64 r1.1)), (5, .val (.int .i64 r1.2))]) (L' := []) (by kernel_rfl) (by kernel_rfl) ?_
    cases h
    exact To.done hΓ (by kernel_rfl)
def port_number (n : Nat) (a0 : List UInt8) : Option (Int) :=
  (digit_Count n a0 65535).bind fun r1 =>
  if (bif (r1.2 != 0) then true else (r1.1 == 0)) = true then (some (-1))
  else some r1.1
theorem ok_port_number (n : Nat) (a0 : List UInt8) (r : Int) (h : port_number n a0 = some r) : CallsX Tryd.prog 34 [.str a0] (.val (.int .i64 r)) := by
  unfold port_number at h
  refine callsX_of (fn := Tryd.f34) (by kernel_rfl) rfl (by kernel_rfl) (Nat.le_of_ble_eq_true (by kernel_rfl)) fun F0 w0 _ => ?_
  refine Wp.keep (kk := [0]) (kl := []) (K' := [(0, .str a0)]) (L' := []) (by kernel_rfl) (by kernel_rfl) ?_
  refine Wp.seq ?_
  refine Wp.region hΓ [] [] [] [0] [] (K' := [(0, .str a0)]) (L' := []) (ob := []) (by kernel_rfl) AllP.nil ?_
  refine To.thenN ?_
  refine Wp.seq ?_
  obtain ⟨r1, hr1, h⟩ := bind_of h
  refine Wp.region hΓ [] [(1, .tup [.val (.int .i64 r1.1), .val (.int .i64 r1.2)])] [] [3, 4] [] (K' := [(3, .val (.int .i64 r1.1)), (4, .val (.int .i64 r1.2))]) (L' := []) (ob := [(true = true → CX Tryd.prog 56 [.str a0, .val (.int .i64 65535)] (.tup [.val (.int .i64 r1.1), .val (.int .i64 r1.2)]))]) (by kernel_rfl) (AllP.cons (fun _ => cx (ok_digit_Count n a0 65535 _ hr1)) AllP.nil) ?_
  refine To.thenN ?_
  refine Wp.seq ?_
  refine Wp.seq ?_
  refine Wp.region hΓ [] [] [] [3, 15] [] (K' := [(3, .val (.int .i64 r1.1)), (15, .val (.bool (bif (r1.2 != 0) then true else (r1.1 == 0))))]) (L' := []) (ob := []) (by kernel_rfl) AllP.nil ?_
  refine To.thenN ?_
  refine Wp.cond (b := (bif (r1.2 != 0) then true else (r1.1 == 0))) (by kernel_rfl) (fun hb => ?_) (fun hb => ?_)
  · replace h := if_t hb h
    refine Wp.seq ?_
    refine Wp.region hΓ [] [] [] [2] [] (K' := [(2, .val (.int .i64 (-1)))]) (L' := []) (ob := []) (by kernel_rfl) AllP.nil ?_
    refine To.thenN ?_
    refine Wp.ret ?_
    refine To.thenR ?_
    refine To.keep (kk := [2]) (kl := []) (K' := [(2, .val (.int .i64 (-1)))]) (L' := []) (by kernel_rfl) (by kernel_rfl) ?_
    cases h
    exact To.done hΓ (by kernel_rfl)
  · replace h := if_f hb h
    refine Wp.skip ?_
    refine To.thenN ?_
    refine Wp.seq ?_
    refine Wp.region hΓ [] [] [] [2] [] (K' := [(2, .val (.int .i64 r1.1))]) (L' := []) (ob := []) (by kernel_rfl) AllP.nil ?_
    refine To.thenN ?_
    refine Wp.ret ?_
    refine To.keep (kk := [2]) (kl := []) (K' := [(2, .val (.int .i64 r1.1))]) (L' := []) (by kernel_rfl) (by kernel_rfl) ?_
    cases h
    exact To.done hΓ (by kernel_rfl)
def port_address_1 (n : Nat) (a0 : List UInt8) : Option (Bool) :=
  (digit_Count n a0 255).bind fun r1 =>
  some (r1.2 != 0)
theorem ok_port_address_1 (n : Nat) (a0 : List UInt8) (r : Bool) (h : port_address_1 n a0 = some r) : CallsX Tryd.prog 59 [.str a0] (.val (.bool r)) := by
  unfold port_address_1 at h
  refine callsX_of (fn := Tryd.f59) (by kernel_rfl) rfl (by kernel_rfl) (Nat.le_of_ble_eq_true (by kernel_rfl)) fun F0 w0 _ => ?_
  refine Wp.keep (kk := [0]) (kl := []) (K' := [(0, .str a0)]) (L' := []) (by kernel_rfl) (by kernel_rfl) ?_
  refine Wp.seq ?_
  refine Wp.region hΓ [] [] [] [0] [] (K' := [(0, .str a0)]) (L' := []) (ob := []) (by kernel_rfl) AllP.nil ?_
  refine To.thenN ?_
  refine Wp.seq ?_
  obtain ⟨r1, hr1, h⟩ := bind_of h
  refine Wp.region hΓ [] [(1, .tup [.val (.int .i64 r1.1), .val (.int .i64 r1.2)])] [] [4] [] (K' := [(4, .val (.int .i64 r1.2))]) (L' := []) (ob := [(true = true → CX Tryd.prog 56 [.str a0, .val (.int .i64 255)] (.tup [.val (.int .i64 r1.1), .val (.int .i64 r1.2)]))]) (by kernel_rfl) (AllP.cons (fun _ => cx (ok_digit_Count n a0 255 _ hr1)) AllP.nil) ?_
  refine To.thenN ?_
  refine Wp.seq ?_
  refine Wp.region hΓ [] [] [] [2] [] (K' := [(2, .val (.bool (r1.2 != 0)))]) (L' := []) (ob := []) (by kernel_rfl) AllP.nil ?_
  refine To.thenN ?_
  refine Wp.ret ?_
  refine To.keep (kk := [2]) (kl := []) (K' := [(2, .val (.bool (r1.2 != 0)))]) (L' := []) (by kernel_rfl) (by kernel_rfl) ?_
  cases h
  exact To.done hΓ (by kernel_rfl)
def slices_IndexFunc_string_string__port_address_1_l1 (n : Nat) (v0 : List (List UInt8)) (v7 : Int) : Nat → Int → Option (Sum (Unit) (Int))
  | 0, _ => none
  | k + 1, v8 => if (decide (v8 < v7)) = true then (if (decide (0 ≤ v8 ∧ v8 < (List.length v0 : Int))) = true then ((port_address_1 n ((v0)[Int.toNat v8]?.getD [])).bind fun r1 =>
  if r1 = true then (some (.inr v8))
  else (slices_IndexFunc_string_string__port_address_1_l1 n v0 v7 k (IntKind.wrap .i64 (v8 + 1)))) else none)
  else (some (.inl ()))
theorem ok_slices_IndexFunc_string_string__port_address_1_l1 (n : Nat) (v0 : List (List UInt8)) (v7 : Int) {F0 : Fz} {w0 : Pt Tryd.prog} {Q : Exit → Act → World → Prop} (k : Nat) : ∀ (v8 : Int) (o : Sum (Unit) (Int)), slices_IndexFunc_string_string__port_address_1_l1 n v0 v7 k v8 = some o → (Sum.elim (fun s => To 19 F0 w0 [] [] (.exit 0) Q) (fun s => To 19 F0 w0 [(4, .val (.int .i64 s))] [] .ret Q)) o → WL Tryd.prog 19 F0 w0 [(0, .recs (α := List UInt8) [] E_string v0), (1, .fn 59 []), (7, .val (.int .i64 v7)), (8, .val (.int .i64 v8))] [] (cI (cI (cB (cA (cB (cF Tryd.f76)))))) Q := by
  induction k with
  | zero => intro v8 o h; cases h
  | succ k ih =>
    intro v8 o h hQ
    rw [slices_IndexFunc_string_string__port_address_1_l1] at h
    refine WL.round ?_
    refine Wp.seq ?_
    refine Wp.region hΓ [] [] [] [0, 1, 7, 8, 9] [] (K' := [(0, .recs (α := List UInt8) [] E_string v0), (1, .fn 59 []), (7, .val (.int .i64 v7)), (8, .val (.int .i64 v8)), (9, .val (.bool (decide (v8 < v7))))]) (L' := []) (ob := []) (by kernel_rfl) AllP.nil ?_
    refine To.thenN ?_
    refine Wp.seq ?_
    refine Wp.cond (b := (decide (v8 < v7))) (by kernel_rfl) (fun hb => ?_) (fun hb => ?_)
    · replace h := if_t hb h
      refine Wp.skip ?_
      refine To.thenN ?_
      refine Wp.seq ?_
      refine Wp.block ?_
      refine Wp.seq ?_
      refine Wp.region hΓ [] [] [] [0, 1, 5, 7, 8] [] (K' := [(0, .recs (α := List UInt8) [] E_string v0), (1, .fn 59 []), (5, .val (.int .i64 v8)), (7, .val (.int .i64 v7)), (8, .val (.int .i64 v8))]) (L' := []) (ob := []) (by kernel_rfl) AllP.nil ?_
      refine To.thenN ?_
      refine Wp.seq ?_
      obtain ⟨hc2, h⟩ := chk_of h
      obtain ⟨r1, hr1, h⟩ := bind_of h
      refine Wp.region hΓ [] [(5, .val (.bool r1))] [] [0, 1, 5, 7, 8, 16] [] (K' := [(0, .recs (α := List UInt8) [] E_string v0), (1, .fn 59 []), (5, .val (.int .i64 v8)), (7, .val (.int .i64 v7)), (8, .val (.int .i64 v8)), (16, .val (.bool r1))]) (L' := []) (ob := [(decide (0 ≤ v8 ∧ v8 < (List.length v0 : Int))) = true, (true = true → CX Tryd.prog 59 [.str ((v0)[Int.toNat v8]?.getD [])] (.val (.bool r1)))]) (by kernel_rfl) (AllP.cons hc2 (AllP.cons (fun _ => cx (ok_port_address_1 n ((v0)[Int.toNat v8]?.getD []) _ hr1)) AllP.nil)) ?_
      refine To.thenN ?_
      refine Wp.cond (b := r1) (by kernel_rfl) (fun hb => ?_) (fun hb => ?_)
      · replace h := if_t hb h
        refine Wp.seq ?_
        refine Wp.region hΓ [] [] [] [4] [] (K' := [(4, .val (.int .i64 v8))]) (L' := []) (ob := []) (by kernel_rfl) AllP.nil ?_
        refine To.thenN ?_
        refine Wp.ret ?_
        refine To.blockR ?_
        refine To.thenR ?_
        refine To.thenR ?_
        refine To.keep (kk := [4]) (kl := []) (K' := [(4, .val (.int .i64 v8))]) (L' := []) (by kernel_rfl) (by kernel_rfl) ?_
        cases h
        exact hQ
      · replace h := if_f hb h
        refine Wp.skip ?_
        refine To.blockN ?_
        refine To.thenN ?_
        refine Wp.region hΓ [] [] [] [0, 1, 7, 8] [] (K' := [(0, .recs (α := List UInt8) [] E_string v0), (1, .fn 59 []), (7, .val (.int .i64 v7)), (8, .val (.int .i64 (IntKind.wrap .i64 (v8 + 1))))]) (L' := []) (ob := []) (by kernel_rfl) AllP.nil ?_
        refine To.keep (kk := [0, 1, 7, 8]) (kl := []) (K' := [(0, .recs (α := List UInt8) [] E_string v0), (1, .fn 59 []), (7, .val (.int .i64 v7)), (8, .val (.int .i64 (IntKind.wrap .i64 (v8 + 1))))]) (L' := []) (by kernel_rfl) (by kernel_rfl) ?_
        refine To.again ?_
        exact ih (IntKind.wrap .i64 (v8 + 1)) _ h hQ
    · replace h := if_f hb h
      refine Wp.exit ?_
      refine To.thenX ?_
      refine To.thenX ?_
      refine To.keep (kk := []) (kl := []) (K' := []) (L' := []) (by kernel_rfl) (by kernel_rfl) ?_
      cases h
      exact hQ
def slices_IndexFunc_string_string__port_address_1 (n : Nat) (a0 : List (List UInt8)) : Option (Int) :=
  (slices_IndexFunc_string_string__port_address_1_l1 n a0 (List.length a0 : Int) n 0).bind fun o1 =>
  (Sum.elim (fun o1 => some (-1)) (fun o1 => some o1)) o1
theorem ok_slices_IndexFunc_string_string__port_address_1 (n : Nat) (a0 : List (List UInt8)) (r : Int) (h : slices_IndexFunc_string_string__port_address_1 n a0 = some r) : CallsX Tryd.prog 76 [.recs (α := List UInt8) [] E_string a0, .fn 59 []] (.val (.int .i64 r)) := by
  unfold slices_IndexFunc_string_string__port_address_1 at h
  refine callsX_of (fn := Tryd.f76) (by kernel_rfl) rfl (by kernel_rfl) (Nat.le_of_ble_eq_true (by kernel_rfl)) fun F0 w0 _ => ?_
  refine Wp.keep (kk := [0, 1]) (kl := []) (K' := [(0, .recs (α := List UInt8) [] E_string a0), (1, .fn 59 [])]) (L' := []) (by kernel_rfl) (by kernel_rfl) ?_
  refine Wp.seq ?_
  refine Wp.region hΓ [] [] [] [0, 1] [] (K' := [(0, .recs (α := List UInt8) [] E_string a0), (1, .fn 59 [])]) (L' := []) (ob := []) (by kernel_rfl) AllP.nil ?_
  refine To.thenN ?_
  refine Wp.seq ?_
  refine Wp.seq ?_
  refine Wp.region hΓ [] [] [] [0, 1, 7, 8] [] (K' := [(0, .recs (α := List UInt8) [] E_string a0), (1, .fn 59 []), (7, .val (.int .i64 (List.length a0 : Int))), (8, .val (.int .i64 0))]) (L' := []) (ob := []) (by kernel_rfl) AllP.nil ?_
  refine To.thenN ?_
  refine Wp.block ?_
  obtain ⟨o1, ho1, h⟩ := bind_of h
  refine Wp.keep (kk := [0, 1, 7, 8]) (kl := []) (K' := [(0, .recs (α := List UInt8) [] E_string a0), (1, .fn 59 []), (7, .val (.int .i64 (List.length a0 : Int))), (8, .val (.int .i64 0))]) (L' := []) (by kernel_rfl) (by kernel_rfl) ?_
  refine Wp.loopL ?_
  refine ok_slices_IndexFunc_string_string__port_address_1_l1 n a0 (List.length a0 : Int) n 0 o1 ho1 ?_
  rcases o1 with o1 | o1
  · replace h := sum_l h
    refine To.blockX ?_
    refine To.thenN ?_
    refine Wp.seq ?_
    refine Wp.region hΓ [] [] [] [4] [] (K' := [(4, .val (.int .i64 (-1)))]) (L' := []) (ob := []) (by kernel_rfl) AllP.nil ?_
    refine To.thenN ?_
    refine Wp.ret ?_
    refine To.keep (kk := [4]) (kl := []) (K' := [(4, .val (.int .i64 (-1)))]) (L' := []) (by kernel_rfl) (by kernel_rfl) ?_
    cases h
    exact To.done hΓ (by kernel_rfl)
  · replace h := sum_r h
    refine To.blockR ?_
    refine To.thenR ?_
    refine To.keep (kk := [4]) (kl := []) (K' := [(4, .val (.int .i64 o1))]) (L' := []) (by kernel_rfl) (by kernel_rfl) ?_
    cases h
    exact To.done hΓ (by kernel_rfl)
def slices_ContainsFunc_string_string__port_address_1 (n : Nat) (a0 : List (List UInt8)) : Option (Bool) :=
  (slices_IndexFunc_string_string__port_address_1 n a0).bind fun r1 =>
  some (decide (r1 ≥ 0))
theorem ok_slices_ContainsFunc_string_string__port_address_1 (n : Nat) (a0 : List (List UInt8)) (r : Bool) (h : slices_ContainsFunc_string_string__port_address_1 n a0 = some r) : CallsX Tryd.prog 58 [.recs (α := List UInt8) [] E_string a0, .fn 59 []] (.val (.bool r)) := by
  unfold slices_ContainsFunc_string_string__port_address_1 at h
  refine callsX_of (fn := Tryd.f58) (by kernel_rfl) rfl (by kernel_rfl) (Nat.le_of_ble_eq_true (by kernel_rfl)) fun F0 w0 _ => ?_
  refine Wp.keep (kk := [0, 1]) (kl := []) (K' := [(0, .recs (α := List UInt8) [] E_string a0), (1, .fn 59 [])]) (L' := []) (by kernel_rfl) (by kernel_rfl) ?_
  refine Wp.seq ?_
  refine Wp.region hΓ [] [] [] [0, 1] [] (K' := [(0, .recs (α := List UInt8) [] E_string a0), (1, .fn 59 [])]) (L' := []) (ob := []) (by kernel_rfl) AllP.nil ?_
  refine To.thenN ?_
  refine Wp.seq ?_
  obtain ⟨r1, hr1, h⟩ := bind_of h
  refine Wp.region hΓ [] [(2, .val (.int .i64 r1))] [] [4] [] (K' := [(4, .val (.bool (decide (r1 ≥ 0))))]) (L' := []) (ob := [(true = true → CX Tryd.prog 76 [.recs (α := List UInt8) [] E_string a0, .fn 59 []] (.val (.int .i64 r1)))]) (by kernel_rfl) (AllP.cons (fun _ => cx (ok_slices_IndexFunc_string_string__port_address_1 n a0 _ hr1)) AllP.nil) ?_
  refine To.thenN ?_
  refine Wp.ret ?_
  refine To.keep (kk := [4]) (kl := []) (K' := [(4, .val (.bool (decide (r1 ≥ 0))))]) (L' := []) (by kernel_rfl) (by kernel_rfl) ?_
  cases h
  exact To.done hΓ (by kernel_rfl)
def port_address (n : Nat) (a0 : List UInt8) : Option (Bool) :=
  if (decide (List.length a0 < 4294967281 ∧ 1 ≤ List.length ([46] : List UInt8))) = true then (((if (((List.length (splitL a0 ([46] : List UInt8)) : Int) == 4) == true) = true then slices_ContainsFunc_string_string__port_address_1 n (splitL a0 ([46] : List UInt8)) else some false)).bind fun r2 =>
  some (bif ((List.length (splitL a0 ([46] : List UInt8)) : Int) == 4) then (!r2) else false)) else none
theorem ok_port_address (n : Nat) (a0 : List UInt8) (r : Bool) (h : port_address n a0 = some r) : CallsX Tryd.prog 37 [.str a0] (.val (.bool r)) := by
  unfold port_address at h
  refine callsX_of (fn := Tryd.f37) (by kernel_rfl) rfl (by kernel_rfl) (Nat.le_of_ble_eq_true (by kernel_rfl)) fun F0 w0 _ => ?_
  refine Wp.keep (kk := [0]) (kl := []) (K' := [(0, .str a0)]) (L' := []) (by kernel_rfl) (by kernel_rfl) ?_
  refine Wp.seq ?_
  refine Wp.region hΓ [] [] [] [0] [] (K' := [(0, .str a0)]) (L' := []) (ob := []) (by kernel_rfl) AllP.nil ?_
  refine To.thenN ?_
  refine Wp.seq ?_
  obtain ⟨u1, h⟩ := chk_of h
  refine Wp.region hΓ [] [(1, .recs (α := List UInt8) [] E_string (splitL a0 ([46] : List UInt8)))] [] [3] [] (K' := [(3, .recs (α := List UInt8) [] E_string (splitL a0 ([46] : List UInt8)))]) (L' := []) (ob := [(true = true → CX Tryd.prog 33 [.str a0, .str [46]] (.recs (α := List UInt8) [] E_string (splitL a0 ([46] : List UInt8))))]) (by kernel_rfl) (AllP.cons (fun _ => cx (Sh.split33 u1)) AllP.nil) ?_
  refine To.thenN ?_
  refine Wp.seq ?_
  obtain ⟨r2, hr2, h⟩ := bind_of h
  refine Wp.region hΓ [] [(5, .val (.bool r2))] [] [2] [] (K' := [(2, .val (.bool (bif ((List.length (splitL a0 ([46] : List UInt8)) : Int) == 4) then (!r2) else false)))]) (L' := []) (ob := [((((List.length (splitL a0 ([46] : List UInt8)) : Int) == 4) == true) = true → CX Tryd.prog 58 [.recs (α := List UInt8) [] E_string (splitL a0 ([46] : List UInt8)), .fn 59 []] (.val (.bool r2)))]) (by kernel_rfl) (AllP.cons (fun hg => cx (ok_slices_ContainsFunc_string_string__port_address_1 n (splitL a0 ([46] : List UInt8)) _ (if_t hg hr2))) AllP.nil) ?_
  refine To.thenN ?_
  refine Wp.ret ?_
  refine To.keep (kk := [2]) (kl := []) (K' := [(2, .val (.bool (bif ((List.length (splitL a0 ([46] : List UInt8)) : Int) == 4) then (!r2) else false)))]) (L' := []) (by kernel_rfl) (by kernel_rfl) ?_
  cases h
  exact To.done hΓ (by kernel_rfl)
def port_Right (n : Nat) (a0 : S_api_Port) : Option (Bool) :=
  ((if (((a0.f_Host == []) == false) && ((bif (bif (bif (bif (decide (a0.f_In ≥ 1)) then (decide (a0.f_In ≤ 65535)) else false) then (decide (a0.f_Out ≥ 0)) else false) then (decide (a0.f_Out ≤ 65535)) else false) then (bif (a0.f_Proto == [116, 99, 112]) then true else (a0.f_Proto == [117, 100, 112])) else false) == true)) = true then port_address n a0.f_Host else some false)).bind fun r1 =>
  lett ((bif (bif (bif (bif (bif (decide (a0.f_In ≥ 1)) then (decide (a0.f_In ≤ 65535)) else false) then (decide (a0.f_Out ≥ 0)) else false) then (decide (a0.f_Out ≤ 65535)) else false) then (bif (a0.f_Proto == [116, 99, 112]) then true else (a0.f_Proto == [117, 100, 112])) else false) then (bif (a0.f_Host == []) then true else r1) else false) : Bool) fun x2 =>
  some x2
theorem ok_port_Right (n : Nat) (a0 : S_api_Port) (r : Bool) (h : port_Right n a0 = some r) : CallsX Tryd.prog 12 [.agg [.str a0.f_Host, .val (.int .i64 a0.f_Out), .val (.int .i64 a0.f_In), .str a0.f_Proto]] (.val (.bool r)) := by
  unfold port_Right at h
  refine callsX_of (fn := Tryd.f12) (by kernel_rfl) rfl (by kernel_rfl) (Nat.le_of_ble_eq_true (by kernel_rfl)) fun F0 w0 _ => ?_
  refine Wp.keep (kk := [0]) (kl := []) (K' := [(0, .agg [.str a0.f_Host, .val (.int .i64 a0.f_Out), .val (.int .i64 a0.f_In), .str a0.f_Proto])]) (L' := []) (by kernel_rfl) (by kernel_rfl) ?_
  refine Wp.seq ?_
  refine Wp.region hΓ [] [] [] [1] [1] (K' := [(1, .own 1 0)]) (L' := [(1, 24, [.str a0.f_Host, .val (.int .i64 a0.f_Out), .val (.int .i64 a0.f_In), .str a0.f_Proto])]) (ob := []) (by kernel_rfl) AllP.nil ?_
  refine To.thenN ?_
  refine Wp.seq ?_
  obtain ⟨r1, hr1, h⟩ := bind_of h
  obtain ⟨x2, hx2, h⟩ := lett_of h
  refine Wp.region hΓ [] [(35, .val (.bool r1))] [] [2] [] (K' := [(2, .val (.bool (bif (bif (bif (bif (bif (decide (a0.f_In ≥ 1)) then (decide (a0.f_In ≤ 65535)) else false) then (decide (a0.f_Out ≥ 0)) else false) then (decide (a0.f_Out ≤ 65535)) else false) then (bif (a0.f_Proto == [116, 99, 112]) then true else (a0.f_Proto == [117, 100, 112])) else false) then (bif (a0.f_Host == []) then true else r1) else false)))]) (L' := []) (ob := [((((a0.f_Host == []) == false) && ((bif (bif (bif (bif (decide (a0.f_In ≥ 1)) then (decide (a0.f_In ≤ 65535)) else false) then (decide (a0.f_Out ≥ 0)) else false) then (decide (a0.f_Out ≤ 65535)) else false) then (bif (a0.f_Proto == [116, 99, 112]) then true else (a0.f_Proto == [117, 100, 112])) else false) == true)) = true → CX Tryd.prog 37 [.str a0.f_Host] (.val (.bool r1)))]) (by kernel_rfl) (AllP.cons (fun hg => cx (ok_port_address n a0.f_Host _ (if_t hg hr1))) AllP.nil) ?_
  refine To.eq (K' := [(2, .val (.bool x2))]) (L' := []) (by cases hx2; rfl) (by cases hx2; rfl) ?_
  refine To.thenN ?_
  refine Wp.ret ?_
  refine To.keep (kk := [2]) (kl := []) (K' := [(2, .val (.bool x2))]) (L' := []) (by kernel_rfl) (by kernel_rfl) ?_
  cases h
  exact To.done hΓ (by kernel_rfl)
def port_Parse_j1 (n : Nat) (v0 : List UInt8) (v5 : List UInt8) (v6 : List UInt8) (v17 : Bool) (b2 : S_api_Port) (b4 : S_api_Port) : Option ((List UInt8) × S_api_Port) :=
  if v17 = true then (some (v5, (S_api_Port.mk b4.f_Host b4.f_Out b4.f_In v6)))
  else (some (v0, b4))
theorem ok_port_Parse_j1 (n : Nat) (v0 : List UInt8) (v5 : List UInt8) (v6 : List UInt8) (v17 : Bool) (b2 : S_api_Port) (b4 : S_api_Port) (o : (List UInt8) × S_api_Port) (h : port_Parse_j1 n v0 v5 v6 v17 b2 b4 = some o) {F0 : Fz} {w0 : Pt Tryd.prog} {Q : Exit → Act → World → Prop} (hQ : To 67 F0 w0 [(0, .str o.1), (2, .own 2 0), (4, .own 4 0)] [(2, 24, [.str b2.f_Host, .val (.int .i64 b2.f_Out), .val (.int .i64 b2.f_In), .str b2.f_Proto]), (4, 24, [.str o.2.f_Host, .val (.int .i64 o.2.f_Out), .val (.int .i64 o.2.f_In), .str o.2.f_Proto])] .normal Q) : Wp Tryd.prog 67 F0 w0 [(0, .str v0), (2, .own 2 0), (4, .own 4 0), (5, .str v5), (6, .str v6), (17, .val (.bool v17))] [(2, 24, [.str b2.f_Host, .val (.int .i64 b2.f_Out), .val (.int .i64 b2.f_In), .str b2.f_Proto]), (4, 24, [.str b4.f_Host, .val (.int .i64 b4.f_Out), .val (.int .i64 b4.f_In), .str b4.f_Proto])] (cB (cB (cA (cB (cB (cF Tryd.f10)))))) Q := by
  unfold port_Parse_j1 at h
  refine Wp.cond (b := v17) (by kernel_rfl) (fun hb => ?_) (fun hb => ?_)
  · replace h := if_t hb h
    refine Wp.region hΓ [] [] [] [0, 2, 4] [2, 4] (K' := [(0, .str v5), (2, .own 2 0), (4, .own 4 0)]) (L' := [(2, 24, [.str b2.f_Host, .val (.int .i64 b2.f_Out), .val (.int .i64 b2.f_In), .str b2.f_Proto]), (4, 24, [.str b4.f_Host, .val (.int .i64 b4.f_Out), .val (.int .i64 b4.f_In), .str v6])]) (ob := []) (by kernel_rfl) AllP.nil ?_
    refine To.keep (kk := [0, 2, 4]) (kl := [2, 4]) (K' := [(0, .str v5), (2, .own 2 0), (4, .own 4 0)]) (L' := [(2, 24, [.str b2.f_Host, .val (.int .i64 b2.f_Out), .val (.int .i64 b2.f_In), .str b2.f_Proto]), (4, 24, [.str b4.f_Host, .val (.int .i64 b4.f_Out), .val (.int .i64 b4.f_In), .str v6])]) (by kernel_rfl) (by kernel_rfl) ?_
    cases h
    exact hQ
  · replace h := if_f hb h
    refine Wp.skip ?_
    refine To.keep (kk := [0, 2, 4]) (kl := [2, 4]) (K' := [(0, .str v0), (2, .own 2 0), (4, .own 4 0)]) (L' := [(2, 24, [.str b2.f_Host, .val (.int .i64 b2.f_Out), .val (.int .i64 b2.f_In), .str b2.f_Proto]), (4, 24, [.str b4.f_Host, .val (.int .i64 b4.f_Out), .val (.int .i64 b4.f_In), .str b4.f_Proto])]) (by kernel_rfl) (by kernel_rfl) ?_
    cases h
    exact hQ
def port_Parse_j2 (n : Nat) (v8 : List (List UInt8)) (v32 : Int) (b2 : S_api_Port) (b4 : S_api_Port) : Option (Sum (S_api_Port × S_api_Port) (Int × S_api_Port)) :=
  if (v32 == 1) = true then (some (.inl (b2, b4)))
  else (if (v32 == 2) = true then (if (decide (0 ≤ (0 : Int) ∧ (0 : Int) < (List.length v8 : Int))) = true then ((port_number n ((v8)[Int.toNat 0]?.getD [])).bind fun r5 =>
  some (.inl (b2, (S_api_Port.mk b4.f_Host r5 b4.f_In b4.f_Proto)))) else none)
  else (if (v32 == 3) = true then (if (decide (0 ≤ (0 : Int) ∧ (0 : Int) < (List.length v8 : Int))) = true then (if (((v8)[Int.toNat 0]?.getD []) == []) = true then (some (.inr (3, (S_api_Port.mk [] 0 0 []))))
  else (if (decide (0 ≤ (1 : Int) ∧ (1 : Int) < (List.length v8 : Int))) = true then (if (!(((v8)[Int.toNat 1]?.getD []) == [])) = true then (if (decide (0 ≤ (1 : Int) ∧ (1 : Int) < (List.length v8 : Int))) = true then ((port_number n ((v8)[Int.toNat 1]?.getD [])).bind fun r7 =>
  some (.inl (b2, (S_api_Port.mk ((v8)[Int.toNat 0]?.getD []) r7 b4.f_In b4.f_Proto)))) else none)
  else (some (.inl (b2, (S_api_Port.mk ((v8)[Int.toNat 0]?.getD []) b4.f_Out b4.f_In b4.f_Proto))))) else none)) else none)
  else (some (.inr (3, (S_api_Port.mk [] 0 0 []))))))
theorem ok_port_Parse_j2 (n : Nat) (v8 : List (List UInt8)) (v32 : Int) (b2 : S_api_Port) (b4 : S_api_Port) (o : Sum (S_api_Port × S_api_Port) (Int × S_api_Port)) (h : port_Parse_j2 n v8 v32 b2 b4 = some o) {F0 : Fz} {w0 : Pt Tryd.prog} {Q : Exit → Act → World → Prop} (hQ : (Sum.elim (fun s => To 67 F0 w0 [(2, .own 2 0), (4, .own 4 0)] [(2, 24, [.str s.1.f_Host, .val (.int .i64 s.1.f_Out), .val (.int .i64 s.1.f_In), .str s.1.f_Proto]), (4, 24, [.str s.2.f_Host, .val (.int .i64 s.2.f_Out), .val (.int .i64 s.2.f_In), .str s.2.f_Proto])] .normal Q) (fun s => To 67 F0 w0 [(2, .own 2 0), (3, .val (.int .i64 s.1))] [(2, 24, [.str s.2.f_Host, .val (.int .i64 s.2.f_Out), .val (.int .i64 s.2.f_In), .str s.2.f_Proto])] .ret Q)) o) : Wp Tryd.prog 67 F0 w0 [(2, .own 2 0), (4, .own 4 0), (8, .recs (α := List UInt8) [] E_string v8), (32, .val (.int .i64 v32))] [(2, 24, [.str b2.f_Host, .val (.int .i64 b2.f_Out), .val (.int .i64 b2.f_In), .str b2.f_Proto]), (4, 24, [.str b4.f_Host, .val (.int .i64 b4.f_Out), .val (.int .i64 b4.f_In), .str b4.f_Proto])] (cB (cA (cB (cB (cB (cB (cB (cB (cF Tryd.f10))))))))) Q := by
  unfold port_Parse_j2 at h
  refine Wp.block ?_
  refine Wp.seq ?_
  refine Wp.region hΓ [] [] [] [2, 4, 8, 32, 34] [2, 4] (K' := [(2, .own 2 0), (4, .own 4 0), (8, .recs (α := List UInt8) [] E_string v8), (32, .val (.int .i64 v32)), (34, .val (.bool (v32 == 1)))]) (L' := [(2, 24, [.str b2.f_Host, .val (.int .i64 b2.f_Out), .val (.int .i64 b2.f_In), .str b2.f_Proto]), (4, 24, [.str b4.f_Host, .val (.int .i64 b4.f_Out), .val (.int .i64 b4.f_In), .str b4.f_Proto])]) (ob := []) (by kernel_rfl) AllP.nil ?_
  refine To.thenN ?_
  refine Wp.cond (b := (v32 == 1)) (by kernel_rfl) (fun hb => ?_) (fun hb => ?_)
  · replace h := if_t hb h
    refine Wp.skip ?_
    refine To.blockN ?_
    refine To.keep (kk := [2, 4]) (kl := [2, 4]) (K' := [(2, .own 2 0), (4, .own 4 0)]) (L' := [(2, 24, [.str b2.f_Host, .val (.int .i64 b2.f_Out), .val (.int .i64 b2.f_In), .str b2.f_Proto]), (4, 24, [.str b4.f_Host, .val (.int .i64 b4.f_Out), .val (.int .i64 b4.f_In), .str b4.f_Proto])]) (by kernel_rfl) (by kernel_rfl) ?_
    cases h
    exact hQ
  · replace h := if_f hb h
    refine Wp.seq ?_
    refine Wp.region hΓ [] [] [] [2, 4, 8, 32, 36] [2, 4] (K' := [(2, .own 2 0), (4, .own 4 0), (8, .recs (α := List UInt8) [] E_string v8), (32, .val (.int .i64 v32)), (36, .val (.bool (v32 == 2)))]) (L' := [(2, 24, [.str b2.f_Host, .val (.int .i64 b2.f_Out), .val (.int .i64 b2.f_In), .str b2.f_Proto]), (4, 24, [.str b4.f_Host, .val (.int .i64 b4.f_Out), .val (.int .i64 b4.f_In), .str b4.f_Proto])]) (ob := []) (by kernel_rfl) AllP.nil ?_
    refine To.thenN ?_
    refine Wp.cond (b := (v32 == 2)) (by kernel_rfl) (fun hb => ?_) (fun hb => ?_)
    · replace h := if_t hb h
      obtain ⟨hc6, h⟩ := chk_of h
      obtain ⟨r5, hr5, h⟩ := bind_of h
      refine Wp.region hΓ [] [(3, .val (.int .i64 r5))] [] [2, 4] [2, 4] (K' := [(2, .own 2 0), (4, .own 4 0)]) (L' := [(2, 24, [.str b2.f_Host, .val (.int .i64 b2.f_Out), .val (.int .i64 b2.f_In), .str b2.f_Proto]), (4, 24, [.str b4.f_Host, .val (.int .i64 r5), .val (.int .i64 b4.f_In), .str b4.f_Proto])]) (ob := [(decide (0 ≤ (0 : Int) ∧ (0 : Int) < (List.length v8 : Int))) = true, (true = true → CX Tryd.prog 34 [.str ((v8)[Int.toNat 0]?.getD [])] (.val (.int .i64 r5)))]) (by kernel_rfl) (AllP.cons hc6 (AllP.cons (fun _ => cx (ok_port_number n ((v8)[Int.toNat 0]?.getD []) _ hr5)) AllP.nil)) ?_
      refine To.blockN ?_
      refine To.keep (kk := [2, 4]) (kl := [2, 4]) (K' := [(2, .own 2 0), (4, .own 4 0)]) (L' := [(2, 24, [.str b2.f_Host, .val (.int .i64 b2.f_Out), .val (.int .i64 b2.f_In), .str b2.f_Proto]), (4, 24, [.str b4.f_Host, .val (.int .i64 r5), .val (.int .i64 b4.f_In), .str b4.f_Proto])]) (by kernel_rfl) (by kernel_rfl) ?_
      cases h
      exact hQ
    · replace h := if_f hb h
      refine Wp.seq ?_
      refine Wp.region hΓ [] [] [] [2, 4, 8, 43] [2, 4] (K' := [(2, .own 2 0), (4, .own 4 0), (8, .recs (α := List UInt8) [] E_string v8), (43, .val (.bool (v32 == 3)))]) (L' := [(2, 24, [.str b2.f_Host, .val (.int .i64 b2.f_Out), .val (.int .i64 b2.f_In), .str b2.f_Proto]), (4, 24, [.str b4.f_Host, .val (.int .i64 b4.f_Out), .val (.int .i64 b4.f_In), .str b4.f_Proto])]) (ob := []) (by kernel_rfl) AllP.nil ?_
      refine To.thenN ?_
      refine Wp.cond (b := (v32 == 3)) (by kernel_rfl) (fun hb => ?_) (fun hb => ?_)
      · replace h := if_t hb h
        refine Wp.seq ?_
        refine Wp.seq ?_
        obtain ⟨hc10, h⟩ := chk_of h
        refine Wp.region hΓ [] [] [] [2, 4, 8] [2, 4] (K' := [(2, .own 2 0), (4, .own 4 0), (8, .recs (α := List UInt8) [] E_string v8)]) (L' := [(2, 24, [.str b2.f_Host, .val (.int .i64 b2.f_Out), .val (.int .i64 b2.f_In), .str b2.f_Proto]), (4, 24, [.str ((v8)[Int.toNat 0]?.getD []), .val (.int .i64 b4.f_Out), .val (.int .i64 b4.f_In), .str b4.f_Proto])]) (ob := [(decide (0 ≤ (0 : Int) ∧ (0 : Int) < (List.length v8 : Int))) = true]) (by kernel_rfl) (AllP.cons hc10 AllP.nil) ?_
        refine To.thenN ?_
        refine Wp.seq ?_
        refine Wp.region hΓ [] [] [] [2, 4, 8, 51] [2, 4] (K' := [(2, .own 2 0), (4, .own 4 0), (8, .recs (α := List UInt8) [] E_string v8), (51, .val (.bool (((v8)[Int.toNat 0]?.getD []) == [])))]) (L' := [(2, 24, [.str b2.f_Host, .val (.int .i64 b2.f_Out), .val (.int .i64 b2.f_In), .str b2.f_Proto]), (4, 24, [.str ((v8)[Int.toNat 0]?.getD []), .val (.int .i64 b4.f_Out), .val (.int .i64 b4.f_In), .str b4.f_Proto])]) (ob := []) (by kernel_rfl) AllP.nil ?_
        refine To.thenN ?_
        refine Wp.cond (b := (((v8)[Int.toNat 0]?.getD []) == [])) (by kernel_rfl) (fun hb => ?_) (fun hb => ?_)
        · replace h := if_t hb h
          refine Wp.seq ?_
          refine Wp.region hΓ [] [] [] [2, 3] [2] (K' := [(2, .own 2 0), (3, .val (.int .i64 3))]) (L' := [(2, 24, [.str [], .val (.int .i64 0), .val (.int .i64 0), .str []])]) (ob := []) (by kernel_rfl) AllP.nil ?_
          refine To.thenN ?_
          refine Wp.ret ?_
          refine To.thenR ?_
          refine To.blockR ?_
          refine To.keep (kk := [2, 3]) (kl := [2]) (K' := [(2, .own 2 0), (3, .val (.int .i64 3))]) (L' := [(2, 24, [.str [], .val (.int .i64 0), .val (.int .i64 0), .str []])]) (by kernel_rfl) (by kernel_rfl) ?_
          cases h
          exact hQ
        · replace h := if_f hb h
          refine Wp.skip ?_
          refine To.thenN ?_
          refine Wp.seq ?_
          obtain ⟨hc9, h⟩ := chk_of h
          refine Wp.region hΓ [] [] [] [2, 4, 8, 56] [2, 4] (K' := [(2, .own 2 0), (4, .own 4 0), (8, .recs (α := List UInt8) [] E_string v8), (56, .val (.bool (!(((v8)[Int.toNat 1]?.getD []) == []))))]) (L' := [(2, 24, [.str b2.f_Host, .val (.int .i64 b2.f_Out), .val (.int .i64 b2.f_In), .str b2.f_Proto]), (4, 24, [.str ((v8)[Int.toNat 0]?.getD []), .val (.int .i64 b4.f_Out), .val (.int .i64 b4.f_In), .str b4.f_Proto])]) (ob := [(decide (0 ≤ (1 : Int) ∧ (1 : Int) < (List.length v8 : Int))) = true]) (by kernel_rfl) (AllP.cons hc9 AllP.nil) ?_
          refine To.thenN ?_
          refine Wp.cond (b := (!(((v8)[Int.toNat 1]?.getD []) == []))) (by kernel_rfl) (fun hb => ?_) (fun hb => ?_)
          · replace h := if_t hb h
            obtain ⟨hc8, h⟩ := chk_of h
            obtain ⟨r7, hr7, h⟩ := bind_of h
            refine Wp.region hΓ [] [(3, .val (.int .i64 r7))] [] [2, 4] [2, 4] (K' := [(2, .own 2 0), (4, .own 4 0)]) (L' := [(2, 24, [.str b2.f_Host, .val (.int .i64 b2.f_Out), .val (.int .i64 b2.f_In), .str b2.f_Proto]), (4, 24, [.str ((v8)[Int.toNat 0]?.getD []), .val (.int .i64 r7), .val (.int .i64 b4.f_In), .str b4.f_Proto])]) (ob := [(decide (0 ≤ (1 : Int) ∧ (1 : Int) < (List.length v8 : Int))) = true, (true = true → CX Tryd.prog 34 [.str ((v8)[Int.toNat 1]?.getD [])] (.val (.int .i64 r7)))]) (by kernel_rfl) (AllP.cons hc8 (AllP.cons (fun _ => cx (ok_port_number n ((v8)[Int.toNat 1]?.getD []) _ hr7)) AllP.nil)) ?_
            refine To.blockN ?_
            refine To.keep (kk := [2, 4]) (kl := [2, 4]) (K' := [(2, .own 2 0), (4, .own 4 0)]) (L' := [(2, 24, [.str b2.f_Host, .val (.int .i64 b2.f_Out), .val (.int .i64 b2.f_In), .str b2.f_Proto]), (4, 24, [.str ((v8)[Int.toNat 0]?.getD []), .val (.int .i64 r7), .val (.int .i64 b4.f_In), .str b4.f_Proto])]) (by kernel_rfl) (by kernel_rfl) ?_
            cases h
            exact hQ
          · replace h := if_f hb h
            refine Wp.skip ?_
            refine To.blockN ?_
            refine To.keep (kk := [2, 4]) (kl := [2, 4]) (K' := [(2, .own 2 0), (4, .own 4 0)]) (L' := [(2, 24, [.str b2.f_Host, .val (.int .i64 b2.f_Out), .val (.int .i64 b2.f_In), .str b2.f_Proto]), (4, 24, [.str ((v8)[Int.toNat 0]?.getD []), .val (.int .i64 b4.f_Out), .val (.int .i64 b4.f_In), .str b4.f_Proto])]) (by kernel_rfl) (by kernel_rfl) ?_
            cases h
            exact hQ
      · replace h := if_f hb h
        refine Wp.seq ?_
        refine Wp.region hΓ [] [] [] [2, 3] [2] (K' := [(2, .own 2 0), (3, .val (.int .i64 3))]) (L' := [(2, 24, [.str [], .val (.int .i64 0), .val (.int .i64 0), .str []])]) (ob := []) (by kernel_rfl) AllP.nil ?_
        refine To.thenN ?_
        refine Wp.ret ?_
        refine To.blockR ?_
        refine To.keep (kk := [2, 3]) (kl := [2]) (K' := [(2, .own 2 0), (3, .val (.int .i64 3))]) (L' := [(2, 24, [.str [], .val (.int .i64 0), .val (.int .i64 0), .str []])]) (by kernel_rfl) (by kernel_rfl) ?_
        cases h
        exact hQ
def port_Parse (n : Nat) (a0 : List UInt8) : Option (S_api_Port × Int) :=
  if (decide (List.length a0 < 4294967281)) = true then ((port_Parse_j1 n a0 ((Lib.cut a0 ([47] : List UInt8)).1) ((Lib.cut a0 ([47] : List UInt8)).2.1) ((Lib.cut a0 ([47] : List UInt8)).2.2) (S_api_Port.mk [] 0 0 []) (S_api_Port.mk [] 0 0 [116, 99, 112])).bind fun o2 =>
  if (decide (List.length o2.1 < 4294967281 ∧ 1 ≤ List.length ([58] : List UInt8))) = true then (if (decide (0 ≤ (IntKind.wrap .i64 ((List.length (splitL o2.1 ([58] : List UInt8)) : Int) - 1)) ∧ (IntKind.wrap .i64 ((List.length (splitL o2.1 ([58] : List UInt8)) : Int) - 1)) < (List.length (splitL o2.1 ([58] : List UInt8)) : Int))) = true then ((port_number n (((splitL o2.1 ([58] : List UInt8)))[Int.toNat (IntKind.wrap .i64 ((List.length (splitL o2.1 ([58] : List UInt8)) : Int) - 1))]?.getD [])).bind fun r4 =>
  (port_Parse_j2 n (splitL o2.1 ([58] : List UInt8)) (List.length (splitL o2.1 ([58] : List UInt8)) : Int) (S_api_Port.mk [] 0 0 []) (S_api_Port.mk o2.2.f_Host o2.2.f_Out r4 o2.2.f_Proto)).bind fun o5 =>
  (Sum.elim (fun o5 => (port_Right n o5.2).bind fun r6 =>
  if (!r6) = true then (some ((S_api_Port.mk [] 0 0 []), 3))
  else (some (o5.2, 0))) (fun o5 => some (o5.2, o5.1))) o5) else none) else none) else none
theorem ok_port_Parse (n : Nat) (a0 : List UInt8) (r : S_api_Port × Int) (h : port_Parse n a0 = some r) : CallsX Tryd.prog 10 [.str a0] (.tup [.agg [.str r.1.f_Host, .val (.int .i64 r.1.f_Out), .val (.int .i64 r.1.f_In), .str r.1.f_Proto], .val (.int .i64 r.2)]) := by
  unfold port_Parse at h
  refine callsX_of (fn := Tryd.f10) (by kernel_rfl) rfl (by kernel_rfl) (Nat.le_of_ble_eq_true (by kernel_rfl)) fun F0 w0 _ => ?_
  refine Wp.keep (kk := [0]) (kl := []) (K' := [(0, .str a0)]) (L' := []) (by kernel_rfl) (by kernel_rfl) ?_
  refine Wp.seq ?_
  refine Wp.region hΓ [] [] [] [0, 2] [2] (K' := [(0, .str a0), (2, .own 2 0)]) (L' := [(2, 24, [.str [], .val (.int .i64 0), .val (.int .i64 0), .str []])]) (ob := []) (by kernel_rfl) AllP.nil ?_
  refine To.thenN ?_
  refine Wp.seq ?_
  refine Wp.region hΓ [] [] [] [0, 2, 4] [2, 4] (K' := [(0, .str a0), (2, .own 2 0), (4, .own 4 0)]) (L' := [(2, 24, [.str [], .val (.int .i64 0), .val (.int .i64 0), .str []]), (4, 24, [.str [], .val (.int .i64 0), .val (.int .i64 0), .str [116, 99, 112]])]) (ob := []) (by kernel_rfl) AllP.nil ?_
  refine To.thenN ?_
  refine Wp.seq ?_
  refine Wp.seq ?_
  obtain ⟨u1, h⟩ := chk_of h
  refine Wp.region hΓ [] [(1, .tup [.str ((Lib.cut a0 ([47] : List UInt8)).1), .str ((Lib.cut a0 ([47] : List UInt8)).2.1), .val (.bool ((Lib.cut a0 ([47] : List UInt8)).2.2))])] [] [0, 2, 4, 5, 6, 7] [2, 4] (K' := [(0, .str a0), (2, .own 2 0), (4, .own 4 0), (5, .str ((Lib.cut a0 ([47] : List UInt8)).1)), (6, .str ((Lib.cut a0 ([47] : List UInt8)).2.1)), (7, .val (.bool ((Lib.cut a0 ([47] : List UInt8)).2.2)))]) (L' := [(2, 24, [.str [], .val (.int .i64 0), .val (.int .i64 0), .str []]), (4, 24, [.str [], .val (.int .i64 0), .val (.int .i64 0), .str [116, 99, 112]])]) (ob := [(true = true → CX Tryd.prog 32 [.str a0, .str [47]] (.tup [.str ((Lib.cut a0 ([47] : List UInt8)).1), .str ((Lib.cut a0 ([47] : List UInt8)).2.1), .val (.bool ((Lib.cut a0 ([47] : List UInt8)).2.2))]))]) (by kernel_rfl) (AllP.cons (fun _ => cx (Sh.cut32 u1)) AllP.nil) ?_
  refine To.thenN ?_
  refine Wp.seq ?_
  refine Wp.region hΓ [] [] [] [0, 2, 4, 5, 6, 17] [2, 4] (K' := [(0, .str a0), (2, .own 2 0), (4, .own 4 0), (5, .str ((Lib.cut a0 ([47] : List UInt8)).1)), (6, .str ((Lib.cut a0 ([47] : List UInt8)).2.1)), (17, .val (.bool ((Lib.cut a0 ([47] : List UInt8)).2.2)))]) (L' := [(2, 24, [.str [], .val (.int .i64 0), .val (.int .i64 0), .str []]), (4, 24, [.str [], .val (.int .i64 0), .val (.int .i64 0), .str [116, 99, 112]])]) (ob := []) (by kernel_rfl) AllP.nil ?_
  refine To.thenN ?_
  obtain ⟨o2, ho2, h⟩ := bind_of h
  refine Wp.keep (kk := [0, 2, 4, 5, 6, 17]) (kl := [2, 4]) (K' := [(0, .str a0), (2, .own 2 0), (4, .own 4 0), (5, .str ((Lib.cut a0 ([47] : List UInt8)).1)), (6, .str ((Lib.cut a0 ([47] : List UInt8)).2.1)), (17, .val (.bool ((Lib.cut a0 ([47] : List UInt8)).2.2)))]) (L' := [(2, 24, [.str [], .val (.int .i64 0), .val (.int .i64 0), .str []]), (4, 24, [.str [], .val (.int .i64 0), .val (.int .i64 0), .str [116, 99, 112]])]) (by kernel_rfl) (by kernel_rfl) ?_
  refine ok_port_Parse_j1 n a0 ((Lib.cut a0 ([47] : List UInt8)).1) ((Lib.cut a0 ([47] : List UInt8)).2.1) ((Lib.cut a0 ([47] : List UInt8)).2.2) (S_api_Port.mk [] 0 0 []) (S_api_Port.mk [] 0 0 [116, 99, 112]) o2 ho2 ?_
  refine To.thenN ?_
  refine Wp.seq ?_
  obtain ⟨u3, h⟩ := chk_of h
  refine Wp.region hΓ [] [(1, .recs (α := List UInt8) [] E_string (splitL o2.1 ([58] : List UInt8)))] [] [2, 4, 8] [2, 4] (K' := [(2, .own 2 0), (4, .own 4 0), (8, .recs (α := List UInt8) [] E_string (splitL o2.1 ([58] : List UInt8)))]) (L' := [(2, 24, [.str [], .val (.int .i64 0), .val (.int .i64 0), .str []]), (4, 24, [.str o2.2.f_Host, .val (.int .i64 o2.2.f_Out), .val (.int .i64 o2.2.f_In), .str o2.2.f_Proto])]) (ob := [(true = true → CX Tryd.prog 33 [.str o2.1, .str [58]] (.recs (α := List UInt8) [] E_string (splitL o2.1 ([58] : List UInt8))))]) (by kernel_rfl) (AllP.cons (fun _ => cx (Sh.split33 u3)) AllP.nil) ?_
  refine To.thenN ?_
  refine Wp.seq ?_
  refine Wp.region hΓ [] [] [] [2, 4, 8, 9] [2, 4] (K' := [(2, .own 2 0), (4, .own 4 0), (8, .recs (α := List UInt8) [] E_string (splitL o2.1 ([58] : List UInt8))), (9, .val (.int .i64 (List.length (splitL o2.1 ([58] : List UInt8)) : Int)))]) (L' := [(2, 24, [.str [], .val (.int .i64 0), .val (.int .i64 0), .str []]), (4, 24, [.str o2.2.f_Host, .val (.int .i64 o2.2.f_Out), .val (.int .i64 o2.2.f_In), .str o2.2.f_Proto])]) (ob := []) (by kernel_rfl) AllP.nil ?_
  refine To.thenN ?_
  refine Wp.seq ?_
  obtain ⟨hc7, h⟩ := chk_of h
  obtain ⟨r4, hr4, h⟩ := bind_of h
  refine Wp.region hΓ [] [(5, .val (.int .i64 r4))] [] [2, 4, 8, 9] [2, 4] (K' := [(2, .own 2 0), (4, .own 4 0), (8, .recs (α := List UInt8) [] E_string (splitL o2.1 ([58] : List UInt8))), (9, .val (.int .i64 (List.length (splitL o2.1 ([58] : List UInt8)) : Int)))]) (L' := [(2, 24, [.str [], .val (.int .i64 0), .val (.int .i64 0), .str []]), (4, 24, [.str o2.2.f_Host, .val (.int .i64 o2.2.f_Out), .val (.int .i64 r4), .str o2.2.f_Proto])]) (ob := [(decide (0 ≤ (IntKind.wrap .i64 ((List.length (splitL o2.1 ([58] : List UInt8)) : Int) - 1)) ∧ (IntKind.wrap .i64 ((List.length (splitL o2.1 ([58] : List UInt8)) : Int) - 1)) < (List.length (splitL o2.1 ([58] : List UInt8)) : Int))) = true, (true = true → CX Tryd.prog 34 [.str (((splitL o2.1 ([58] : List UInt8)))[Int.toNat (IntKind.wrap .i64 ((List.length (splitL o2.1 ([58] : List UInt8)) : Int) - 1))]?.getD [])] (.val (.int .i64 r4)))]) (by kernel_rfl) (AllP.cons hc7 (AllP.cons (fun _ => cx (ok_port_number n (((splitL o2.1 ([58] : List UInt8)))[Int.toNat (IntKind.wrap .i64 ((List.length (splitL o2.1 ([58] : List UInt8)) : Int) - 1))]?.getD []) _ hr4)) AllP.nil)) ?_
  refine To.thenN ?_
  refine Wp.seq ?_
  refine Wp.seq ?_
  refine Wp.region hΓ [] [] [] [2, 4, 8, 32] [2, 4] (K' := [(2, .own 2 0), (4, .own 4 0), (8, .recs (α := List UInt8) [] E_string (splitL o2.1 ([58] : List UInt8))), (32, .val (.int .i64 (List.length (splitL o2.1 ([58] : List UInt8)) : Int)))]) (L' := [(2, 24, [.str [], .val (.int .i64 0), .val (.int .i64 0), .str []]), (4, 24, [.str o2.2.f_Host, .val (.int .i64 o2.2.f_Out), .val (.int .i64 r4), .str o2.2.f_Proto])]) (ob := []) (by kernel_rfl) AllP.nil ?_
  refine To.thenN ?_
  obtain ⟨o5, ho5, h⟩ := bind_of h
  refine Wp.keep (kk := [2, 4, 8, 32]) (kl := [2, 4]) (K' := [(2, .own 2 0), (4, .own 4 0), (8, .recs (α := List UInt8) [] E_string (splitL o2.1 ([58] : List UInt8))), (32, .val (.int .i64 (List.length (splitL o2.1 ([58] : List UInt8)) : Int)))]) (L' := [(2, 24, [.str [], .val (.int .i64 0), .val (.int .i64 0), .str []]), (4, 24, [.str o2.2.f_Host, .val (.int .i64 o2.2.f_Out), .val (.int .i64 r4), .str o2.2.f_Proto])]) (by kernel_rfl) (by kernel_rfl) ?_
  refine ok_port_Parse_j2 n (splitL o2.1 ([58] : List UInt8)) (List.length (splitL o2.1 ([58] : List UInt8)) : Int) (S_api_Port.mk [] 0 0 []) (S_api_Port.mk o2.2.f_Host o2.2.f_Out r4 o2.2.f_Proto) o5 ho5 ?_
  rcases o5 with o5 | o5
  · replace h := sum_l h
    refine To.thenN ?_
    refine Wp.seq ?_
    refine Wp.seq ?_
    obtain ⟨r6, hr6, h⟩ := bind_of h
    refine Wp.region hΓ [] [(1, .val (.bool r6))] [] [2, 4, 64] [2, 4] (K' := [(2, .own 2 0), (4, .own 4 0), (64, .val (.bool (!r6)))]) (L' := [(2, 24, [.str o5.1.f_Host, .val (.int .i64 o5.1.f_Out), .val (.int .i64 o5.1.f_In), .str o5.1.f_Proto]), (4, 24, [.str o5.2.f_Host, .val (.int .i64 o5.2.f_Out), .val (.int .i64 o5.2.f_In), .str o5.2.f_Proto])]) (ob := [(true = true → CX Tryd.prog 12 [.agg [.str o5.2.f_Host, .val (.int .i64 o5.2.f_Out), .val (.int .i64 o5.2.f_In), .str o5.2.f_Proto]] (.val (.bool r6)))]) (by kernel_rfl) (AllP.cons (fun _ => cx (ok_port_Right n o5.2 _ hr6)) AllP.nil) ?_
    refine To.thenN ?_
    refine Wp.cond (b := (!r6)) (by kernel_rfl) (fun hb => ?_) (fun hb => ?_)
    · replace h := if_t hb h
      refine Wp.seq ?_
      refine Wp.region hΓ [] [] [] [2, 3] [2] (K' := [(2, .own 2 0), (3, .val (.int .i64 3))]) (L' := [(2, 24, [.str [], .val (.int .i64 0), .val (.int .i64 0), .str []])]) (ob := []) (by kernel_rfl) AllP.nil ?_
      refine To.thenN ?_
      refine Wp.ret ?_
      refine To.thenR ?_
      refine To.keep (kk := [2, 3]) (kl := [2]) (K' := [(2, .own 2 0), (3, .val (.int .i64 3))]) (L' := [(2, 24, [.str [], .val (.int .i64 0), .val (.int .i64 0), .str []])]) (by kernel_rfl) (by kernel_rfl) ?_
      cases h
      exact To.done hΓ (by kernel_rfl)
    · replace h := if_f hb h
      refine Wp.skip ?_
      refine To.thenN ?_
      refine Wp.seq ?_
      refine Wp.region hΓ [] [] [] [2, 3] [2] (K' := [(2, .own 2 0), (3, .val (.int .i64 0))]) (L' := [(2, 24, [.str o5.2.f_Host, .val (.int .i64 o5.2.f_Out), .val (.int .i64 o5.2.f_In), .str o5.2.f_Proto])]) (ob := []) (by kernel_rfl) AllP.nil ?_
      refine To.thenN ?_
      refine Wp.ret ?_
      refine To.keep (kk := [2, 3]) (kl := [2]) (K' := [(2, .own 2 0), (3, .val (.int .i64 0))]) (L' := [(2, 24, [.str o5.2.f_Host, .val (.int .i64 o5.2.f_Out), .val (.int .i64 o5.2.f_In), .str o5.2.f_Proto])]) (by kernel_rfl) (by kernel_rfl) ?_
      cases h
      exact To.done hΓ (by kernel_rfl)
  · replace h := sum_r h
    refine To.thenR ?_
    refine To.keep (kk := [2, 3]) (kl := [2]) (K' := [(2, .own 2 0), (3, .val (.int .i64 o5.1))]) (L' := [(2, 24, [.str o5.2.f_Host, .val (.int .i64 o5.2.f_Out), .val (.int .i64 o5.2.f_In), .str o5.2.f_Proto])]) (by kernel_rfl) (by kernel_rfl) ?_
    cases h
    exact To.done hΓ (by kernel_rfl)
def digit_Text_j1 (n : Nat) (v4 : Int) (v5 : Bool) (v6 : Int) (v11 : Bool) (b3 : List (UInt8)) : Option (Int) :=
  if v11 = true then (some (IntKind.wrap .u64 (0 - v6)))
  else some v6
theorem ok_digit_Text_j1 (n : Nat) (v4 : Int) (v5 : Bool) (v6 : Int) (v11 : Bool) (b3 : List (UInt8)) (o : Int) (h : digit_Text_j1 n v4 v5 v6 v11 b3 = some o) {F0 : Fz} {w0 : Pt Tryd.prog} {Q : Exit → Act → World → Prop} (hQ : To 34 F0 w0 [(3, .elm 3 0 1 0), (4, .val (.int .i64 v4)), (5, .val (.bool v5)), (6, .val (.int .u64 o))] [(3, 67, [.rowc false (α := UInt8) 0 e8 b3])] .normal Q) : Wp Tryd.prog 34 F0 w0 [(3, .elm 3 0 1 0), (4, .val (.int .i64 v4)), (5, .val (.bool v5)), (6, .val (.int .u64 v6)), (11, .val (.bool v11))] [(3, 67, [.rowc false (α := UInt8) 0 e8 b3])] (cB (cA (cB (cB (cB (cB (cF Tryd.f38))))))) Q := by
  unfold digit_Text_j1 at h
  refine Wp.cond (b := v11) (by kernel_rfl) (fun hb => ?_) (fun hb => ?_)
  · replace h := if_t hb h
    refine Wp.region hΓ [] [] [] [3, 4, 5, 6] [3] (K' := [(3, .elm 3 0 1 0), (4, .val (.int .i64 v4)), (5, .val (.bool v5)), (6, .val (.int .u64 (IntKind.wrap .u64 (0 - v6))))]) (L' := [(3, 67, [.rowc false (α := UInt8) 0 e8 b3])]) (ob := []) (by kernel_rfl) AllP.nil ?_
    refine To.keep (kk := [3, 4, 5, 6]) (kl := [3]) (K' := [(3, .elm 3 0 1 0), (4, .val (.int .i64 v4)), (5, .val (.bool v5)), (6, .val (.int .u64 (IntKind.wrap .u64 (0 - v6))))]) (L' := [(3, 67, [.rowc false (α := UInt8) 0 e8 b3])]) (by kernel_rfl) (by kernel_rfl) ?_
    cases h
    exact hQ
  · replace h := if_f hb h
    refine Wp.skip ?_
    refine To.keep (kk := [3, 4, 5, 6]) (kl := [3]) (K' := [(3, .elm 3 0 1 0), (4, .val (.int .i64 v4)), (5, .val (.bool v5)), (6, .val (.int .u64 v6))]) (L' := [(3, 67, [.rowc false (α := UInt8) 0 e8 b3])]) (by kernel_rfl) (by kernel_rfl) ?_
    cases h
    exact hQ
def digit_Text_l2 (n : Nat) (v5 : Bool) : Nat → Int → Int → (List (UInt8)) → Option (Int × (List (UInt8)))
  | 0, _, _, _ => none
  | k + 1, v4, v6, b3 => if ((10 != 0)) = true then (if (decide (0 ≤ (IntKind.wrap .i64 (v4 - 1)) ∧ (IntKind.wrap .i64 (v4 - 1)) < (20 : Int))) = true then (if (decide (0 ≤ (IntKind.wrap .u8 ((IntKind.wrap .u64 (48 + (Int.tmod v6 10))))) ∧ (IntKind.wrap .u8 ((IntKind.wrap .u64 (48 + (Int.tmod v6 10))))) < 256)) = true then (if (decide (0 ≤ (IntKind.wrap .i64 (v4 - 1)) ∧ (IntKind.wrap .i64 (v4 - 1)) < (List.length b3 : Int))) = true then (lett ((List.set b3 (Int.toNat (IntKind.wrap .i64 (v4 - 1))) (UInt8.ofNat (Int.toNat (IntKind.wrap .u8 ((IntKind.wrap .u64 (48 + (Int.tmod v6 10)))))))) : List (UInt8)) fun x3 =>
  if ((10 != 0)) = true then (if ((IntKind.wrap .u64 (Int.tdiv v6 10)) == 0) = true then (some ((IntKind.wrap .i64 (v4 - 1)), x3))
  else (digit_Text_l2 n v5 k (IntKind.wrap .i64 (v4 - 1)) (IntKind.wrap .u64 (Int.tdiv v6 10)) x3)) else none) else none) else none) else none) else none
theorem ok_digit_Text_l2 (n : Nat) (v5 : Bool) {F0 : Fz} {w0 : Pt Tryd.prog} {Q : Exit → Act → World → Prop} (k : Nat) : ∀ (v4 : Int) (v6 : Int) (b3 : List (UInt8)) (o : Int × (List (UInt8))), digit_Text_l2 n v5 k v4 v6 b3 = some o → To 34 F0 w0 [(3, .elm 3 0 1 0), (4, .val (.int .i64 o.1)), (5, .val (.bool v5))] [(3, 67, [.rowc false (α := UInt8) 0 e8 o.2])] (.exit 0) Q → WL Tryd.prog 34 F0 w0 [(3, .elm 3 0 1 0), (4, .val (.int .i64 v4)), (5, .val (.bool v5)), (6, .val (.int .u64 v6))] [(3, 67, [.rowc false (α := UInt8) 0 e8 b3])] (cI (cI (cA (cB (cB (cB (cB (cB (cF Tryd.f38))))))))) Q := by
  induction k with
  | zero => intro v4 v6 b3 o h; cases h
  | succ k ih =>
    intro v4 v6 b3 o h hQ
    rw [digit_Text_l2] at h
    refine WL.round ?_
    refine Wp.block ?_
    refine Wp.seq ?_
    refine Wp.region hΓ [] [] [] [3, 4, 5, 6] [3] (K' := [(3, .elm 3 0 1 0), (4, .val (.int .i64 (IntKind.wrap .i64 (v4 - 1)))), (5, .val (.bool v5)), (6, .val (.int .u64 v6))]) (L' := [(3, 67, [.rowc false (α := UInt8) 0 e8 b3])]) (ob := []) (by kernel_rfl) AllP.nil ?_
    refine To.thenN ?_
    refine Wp.seq ?_
    obtain ⟨hc5, h⟩ := chk_of h
    obtain ⟨hc6, h⟩ := chk_of h
    obtain ⟨u2, h⟩ := chk_of h
    obtain ⟨hc7, h⟩ := chk_of h
    obtain ⟨x3, hx3, h⟩ := lett_of h
    refine Wp.region hΓ [] [(6, .recs (α := UInt8) 0 e8 (List.set b3 (Int.toNat (IntKind.wrap .i64 (v4 - 1))) (UInt8.ofNat (Int.toNat (IntKind.wrap .u8 ((IntKind.wrap .u64 (48 + (Int.tmod v6 10)))))))))] [] [3, 4, 5, 6] [3] (K' := [(3, .elm 3 0 1 0), (4, .val (.int .i64 (IntKind.wrap .i64 (v4 - 1)))), (5, .val (.bool v5)), (6, .val (.int .u64 v6))]) (L' := [(3, 67, [.rowc false (α := UInt8) 0 e8 (List.set b3 (Int.toNat (IntKind.wrap .i64 (v4 - 1))) (UInt8.ofNat (Int.toNat (IntKind.wrap .u8 ((IntKind.wrap .u64 (48 + (Int.tmod v6 10))))))))])]) (ob := [((10 != 0)) = true, (decide (0 ≤ (IntKind.wrap .i64 (v4 - 1)) ∧ (IntKind.wrap .i64 (v4 - 1)) < (20 : Int))) = true, (decide (0 ≤ (IntKind.wrap .i64 (v4 - 1)) ∧ (IntKind.wrap .i64 (v4 - 1)) < (List.length b3 : Int))) = true, UpdOb 0 e8 b3 (IntKind.wrap .i64 (v4 - 1)) 0 [.val (.int .u8 (IntKind.wrap .u8 ((IntKind.wrap .u64 (48 + (Int.tmod v6 10))))))] (.recs (α := UInt8) 0 e8 (List.set b3 (Int.toNat (IntKind.wrap .i64 (v4 - 1))) (UInt8.ofNat (Int.toNat (IntKind.wrap .u8 ((IntKind.wrap .u64 (48 + (Int.tmod v6 10)))))))))]) (by kernel_rfl) (AllP.cons hc5 (AllP.cons hc6 (AllP.cons hc7 (AllP.cons (upd8 (u8_of u2)) AllP.nil)))) ?_
    refine To.eq (K' := [(3, .elm 3 0 1 0), (4, .val (.int .i64 (IntKind.wrap .i64 (v4 - 1)))), (5, .val (.bool v5)), (6, .val (.int .u64 v6))]) (L' := [(3, 67, [.rowc false (α := UInt8) 0 e8 x3])]) (by cases hx3; rfl) (by cases hx3; rfl) ?_
    refine To.thenN ?_
    refine Wp.seq ?_
    obtain ⟨hc4, h⟩ := chk_of h
    refine Wp.region hΓ [] [] [] [3, 4, 5, 6] [3] (K' := [(3, .elm 3 0 1 0), (4, .val (.int .i64 (IntKind.wrap .i64 (v4 - 1)))), (5, .val (.bool v5)), (6, .val (.int .u64 (IntKind.wrap .u64 (Int.tdiv v6 10))))]) (L' := [(3, 67, [.rowc false (α := UInt8) 0 e8 x3])]) (ob := [((10 != 0)) = true]) (by kernel_rfl) (AllP.cons hc4 AllP.nil) ?_
    refine To.thenN ?_
    refine Wp.seq ?_
    refine Wp.region hΓ [] [] [] [3, 4, 5, 6, 25] [3] (K' := [(3, .elm 3 0 1 0), (4, .val (.int .i64 (IntKind.wrap .i64 (v4 - 1)))), (5, .val (.bool v5)), (6, .val (.int .u64 (IntKind.wrap .u64 (Int.tdiv v6 10)))), (25, .val (.bool ((IntKind.wrap .u64 (Int.tdiv v6 10)) == 0)))]) (L' := [(3, 67, [.rowc false (α := UInt8) 0 e8 x3])]) (ob := []) (by kernel_rfl) AllP.nil ?_
    refine To.thenN ?_
    refine Wp.cond (b := ((IntKind.wrap .u64 (Int.tdiv v6 10)) == 0)) (by kernel_rfl) (fun hb => ?_) (fun hb => ?_)
    · replace h := if_t hb h
      refine Wp.exit ?_
      refine To.blockO (by decide) ?_
      refine To.thenX ?_
      refine To.keep (kk := [3, 4, 5]) (kl := [3]) (K' := [(3, .elm 3 0 1 0), (4, .val (.int .i64 (IntKind.wrap .i64 (v4 - 1)))), (5, .val (.bool v5))]) (L' := [(3, 67, [.rowc false (α := UInt8) 0 e8 x3])]) (by kernel_rfl) (by kernel_rfl) ?_
      cases h
      exact hQ
    · replace h := if_f hb h
      refine Wp.skip ?_
      refine To.blockN ?_
      refine To.keep (kk := [3, 4, 5, 6]) (kl := [3]) (K' := [(3, .elm 3 0 1 0), (4, .val (.int .i64 (IntKind.wrap .i64 (v4 - 1)))), (5, .val (.bool v5)), (6, .val (.int .u64 (IntKind.wrap .u64 (Int.tdiv v6 10))))]) (L' := [(3, 67, [.rowc false (α := UInt8) 0 e8 x3])]) (by kernel_rfl) (by kernel_rfl) ?_
      refine To.again ?_
      exact ih (IntKind.wrap .i64 (v4 - 1)) (IntKind.wrap .u64 (Int.tdiv v6 10)) x3 _ h hQ
def digit_Text_j3 (n : Nat) (v4 : Int) (v26 : Bool) (b3 : List (UInt8)) : Option (Int × (List (UInt8))) :=
  if v26 = true then (if (decide (0 ≤ (IntKind.wrap .i64 (v4 - 1)) ∧ (IntKind.wrap .i64 (v4 - 1)) < (20 : Int))) = true then (if (decide (0 ≤ (IntKind.wrap .i64 (v4 - 1)) ∧ (IntKind.wrap .i64 (v4 - 1)) < (List.length b3 : Int))) = true then (some ((IntKind.wrap .i64 (v4 - 1)), (List.set b3 (Int.toNat (IntKind.wrap .i64 (v4 - 1))) 45))) else none) else none)
  else (some (v4, b3))
theorem ok_digit_Text_j3 (n : Nat) (v4 : Int) (v26 : Bool) (b3 : List (UInt8)) (o : Int × (List (UInt8))) (h : digit_Text_j3 n v4 v26 b3 = some o) {F0 : Fz} {w0 : Pt Tryd.prog} {Q : Exit → Act → World → Prop} (hQ : To 34 F0 w0 [(3, .elm 3 0 1 0), (4, .val (.int .i64 o.1))] [(3, 67, [.rowc false (α := UInt8) 0 e8 o.2])] .normal Q) : Wp Tryd.prog 34 F0 w0 [(3, .elm 3 0 1 0), (4, .val (.int .i64 v4)), (26, .val (.bool v26))] [(3, 67, [.rowc false (α := UInt8) 0 e8 b3])] (cB (cA (cB (cB (cB (cB (cB (cB (cF Tryd.f38))))))))) Q := by
  unfold digit_Text_j3 at h
  refine Wp.cond (b := v26) (by kernel_rfl) (fun hb => ?_) (fun hb => ?_)
  · replace h := if_t hb h
    refine Wp.seq ?_
    refine Wp.region hΓ [] [] [] [3, 4] [3] (K' := [(3, .elm 3 0 1 0), (4, .val (.int .i64 (IntKind.wrap .i64 (v4 - 1))))]) (L' := [(3, 67, [.rowc false (α := UInt8) 0 e8 b3])]) (ob := []) (by kernel_rfl) AllP.nil ?_
    refine To.thenN ?_
    obtain ⟨hc3, h⟩ := chk_of h
    obtain ⟨hc4, h⟩ := chk_of h
    refine Wp.region hΓ [] [(2, .recs (α := UInt8) 0 e8 (List.set b3 (Int.toNat (IntKind.wrap .i64 (v4 - 1))) 45))] [] [3, 4] [3] (K' := [(3, .elm 3 0 1 0), (4, .val (.int .i64 (IntKind.wrap .i64 (v4 - 1))))]) (L' := [(3, 67, [.rowc false (α := UInt8) 0 e8 (List.set b3 (Int.toNat (IntKind.wrap .i64 (v4 - 1))) 45)])]) (ob := [(decide (0 ≤ (IntKind.wrap .i64 (v4 - 1)) ∧ (IntKind.wrap .i64 (v4 - 1)) < (20 : Int))) = true, (decide (0 ≤ (IntKind.wrap .i64 (v4 - 1)) ∧ (IntKind.wrap .i64 (v4 - 1)) < (List.length b3 : Int))) = true, UpdOb 0 e8 b3 (IntKind.wrap .i64 (v4 - 1)) 0 [.val (.int .u8 45)] (.recs (α := UInt8) 0 e8 (List.set b3 (Int.toNat (IntKind.wrap .i64 (v4 - 1))) 45))]) (by kernel_rfl) (AllP.cons hc3 (AllP.cons hc4 (AllP.cons (upd8 rfl) AllP.nil))) ?_
    refine To.keep (kk := [3, 4]) (kl := [3]) (K' := [(3, .elm 3 0 1 0), (4, .val (.int .i64 (IntKind.wrap .i64 (v4 - 1))))]) (L' := [(3, 67, [.rowc false (α := UInt8) 0 e8 (List.set b3 (Int.toNat (IntKind.wrap .i64 (v4 - 1))) 45)])]) (by kernel_rfl) (by kernel_rfl) ?_
    cases h
    exact hQ
  · replace h := if_f hb h
    refine Wp.skip ?_
    refine To.keep (kk := [3, 4]) (kl := [3]) (K' := [(3, .elm 3 0 1 0), (4, .val (.int .i64 v4))]) (L' := [(3, 67, [.rowc false (α := UInt8) 0 e8 b3])]) (by kernel_rfl) (by kernel_rfl) ?_
    cases h
    exact hQ
def digit_Text (n : Nat) (a0 : Int) : Option ((List UInt8)) :=
  (digit_Text_j1 n 20 (decide (a0 < 0)) (IntKind.wrap .u64 (a0)) (decide (a0 < 0)) (List.replicate 20 0)).bind fun o1 =>
  (digit_Text_l2 n (decide (a0 < 0)) n 20 o1 (List.replicate 20 0)).bind fun o2 =>
  (digit_Text_j3 n o2.1 (decide (a0 < 0)) o2.2).bind fun o3 =>
  if (decide (List.length o3.2 = 20)) = true then (if (decide (0 ≤ o3.1 ∧ o3.1 ≤ (List.length o3.2 : Int))) = true then (some (List.drop (Int.toNat o3.1) o3.2)) else none) else none
theorem ok_digit_Text (n : Nat) (a0 : Int) (r : (List UInt8)) (h : digit_Text n a0 = some r) : CallsX Tryd.prog 38 [.val (.int .i64 a0)] (.str r) := by
  unfold digit_Text at h
  refine callsX_of (fn := Tryd.f38) (by kernel_rfl) rfl (by kernel_rfl) (Nat.le_of_ble_eq_true (by kernel_rfl)) fun F0 w0 _ => ?_
  refine Wp.keep (kk := [0]) (kl := []) (K' := [(0, .val (.int .i64 a0))]) (L' := []) (by kernel_rfl) (by kernel_rfl) ?_
  refine Wp.seq ?_
  refine Wp.region hΓ [] [] [] [0] [] (K' := [(0, .val (.int .i64 a0))]) (L' := []) (ob := []) (by kernel_rfl) AllP.nil ?_
  refine To.thenN ?_
  refine Wp.seq ?_
  refine Wp.region hΓ [] [] [] [0, 3] [3] (K' := [(0, .val (.int .i64 a0)), (3, .own 3 0)]) (L' := [(3, 67, [.val (.int .u8 0), .val (.int .u8 0), .val (.int .u8 0), .val (.int .u8 0), .val (.int .u8 0), .val (.int .u8 0), .val (.int .u8 0), .val (.int .u8 0), .val (.int .u8 0), .val (.int .u8 0), .val (.int .u8 0), .val (.int .u8 0), .val (.int .u8 0), .val (.int .u8 0), .val (.int .u8 0), .val (.int .u8 0), .val (.int .u8 0), .val (.int .u8 0), .val (.int .u8 0), .val (.int .u8 0)])]) (ob := []) (by kernel_rfl) AllP.nil ?_
  refine To.pre (St.toRow (t := 67) (l := (List.replicate 20 0)) 3 1 20 (by decide) (by decide) (good8 _) (by kernel_rfl) (by kernel_rfl) (by kernel_rfl) (by kernel_rfl) (K' := [(0, .val (.int .i64 a0)), (3, .elm 3 0 1 0)]) (L' := [(3, 67, [.rowc false (α := UInt8) 0 e8 (List.replicate 20 0)])]) (by kernel_rfl) (by kernel_rfl)) ?_
  refine To.thenN ?_
  refine Wp.seq ?_
  refine Wp.region hΓ [] [] [] [0, 3, 4, 5] [3] (K' := [(0, .val (.int .i64 a0)), (3, .elm 3 0 1 0), (4, .val (.int .i64 20)), (5, .val (.bool (decide (a0 < 0))))]) (L' := [(3, 67, [.rowc false (α := UInt8) 0 e8 (List.replicate 20 0)])]) (ob := []) (by kernel_rfl) AllP.nil ?_
  refine To.thenN ?_
  refine Wp.seq ?_
  refine Wp.region hΓ [] [] [] [3, 4, 5, 6] [3] (K' := [(3, .elm 3 0 1 0), (4, .val (.int .i64 20)), (5, .val (.bool (decide (a0 < 0)))), (6, .val (.int .u64 (IntKind.wrap .u64 (a0))))]) (L' := [(3, 67, [.rowc false (α := UInt8) 0 e8 (List.replicate 20 0)])]) (ob := []) (by kernel_rfl) AllP.nil ?_
  refine To.thenN ?_
  refine Wp.seq ?_
  refine Wp.seq ?_
  refine Wp.region hΓ [] [] [] [3, 4, 5, 6, 11] [3] (K' := [(3, .elm 3 0 1 0), (4, .val (.int .i64 20)), (5, .val (.bool (decide (a0 < 0)))), (6, .val (.int .u64 (IntKind.wrap .u64 (a0)))), (11, .val (.bool (decide (a0 < 0))))]) (L' := [(3, 67, [.rowc false (α := UInt8) 0 e8 (List.replicate 20 0)])]) (ob := []) (by kernel_rfl) AllP.nil ?_
  refine To.thenN ?_
  obtain ⟨o1, ho1, h⟩ := bind_of h
  refine Wp.keep (kk := [3, 4, 5, 6, 11]) (kl := [3]) (K' := [(3, .elm 3 0 1 0), (4, .val (.int .i64 20)), (5, .val (.bool (decide (a0 < 0)))), (6, .val (.int .u64 (IntKind.wrap .u64 (a0)))), (11, .val (.bool (decide (a0 < 0))))]) (L' := [(3, 67, [.rowc false (α := UInt8) 0 e8 (List.replicate 20 0)])]) (by kernel_rfl) (by kernel_rfl) ?_
  refine ok_digit_Text_j1 n 20 (decide (a0 < 0)) (IntKind.wrap .u64 (a0)) (decide (a0 < 0)) (List.replicate 20 0) o1 ho1 ?_
  refine To.thenN ?_
  refine Wp.seq ?_
  refine Wp.block ?_
  obtain ⟨o2, ho2, h⟩ := bind_of h
  refine Wp.keep (kk := [3, 4, 5, 6]) (kl := [3]) (K' := [(3, .elm 3 0 1 0), (4, .val (.int .i64 20)), (5, .val (.bool (decide (a0 < 0)))), (6, .val (.int .u64 o1))]) (L' := [(3, 67, [.rowc false (α := UInt8) 0 e8 (List.replicate 20 0)])]) (by kernel_rfl) (by kernel_rfl) ?_
  refine Wp.loopL ?_
  refine ok_digit_Text_l2 n (decide (a0 < 0)) n 20 o1 (List.replicate 20 0) o2 ho2 ?_
  refine To.blockX ?_
  refine To.thenN ?_
  refine Wp.seq ?_
  refine Wp.seq ?_
  refine Wp.region hΓ [] [] [] [3, 4, 26] [3] (K' := [(3, .elm 3 0 1 0), (4, .val (.int .i64 o2.1)), (26, .val (.bool (decide (a0 < 0))))]) (L' := [(3, 67, [.rowc false (α := UInt8) 0 e8 o2.2])]) (ob := []) (by kernel_rfl) AllP.nil ?_
  refine To.thenN ?_
  obtain ⟨o3, ho3, h⟩ := bind_of h
  refine Wp.keep (kk := [3, 4, 26]) (kl := [3]) (K' := [(3, .elm 3 0 1 0), (4, .val (.int .i64 o2.1)), (26, .val (.bool (decide (a0 < 0))))]) (L' := [(3, 67, [.rowc false (α := UInt8) 0 e8 o2.2])]) (by kernel_rfl) (by kernel_rfl) ?_
  refine ok_digit_Text_j3 n o2.1 (decide (a0 < 0)) o2.2 o3 ho3 ?_
  refine To.thenN ?_
  refine Wp.seq ?_
  obtain ⟨hc4, h⟩ := chk_of h
  obtain ⟨hc5, h⟩ := chk_of h
  refine Wp.region hΓ [(1, [3])] [(2, .str (List.drop (Int.toNat o3.1) o3.2))] [] [2] [] (K' := [(2, .str (List.drop (Int.toNat o3.1) o3.2))]) (L' := []) (ob := [(decide (List.length o3.2 = 20)) = true, (decide (0 ≤ o3.1 ∧ o3.1 ≤ (List.length o3.2 : Int))) = true, (true = true → StrOb (List.flatMap e8 (List.drop (Int.toNat o3.1) o3.2)) (.str (List.drop (Int.toNat o3.1) o3.2)))]) (by kernel_rfl) (AllP.cons hc4 (AllP.cons hc5 (AllP.cons (fun _ => strOb (flat8 _)) AllP.nil))) ?_
  refine To.thenN ?_
  refine Wp.ret ?_
  refine To.keep (kk := [2]) (kl := []) (K' := [(2, .str (List.drop (Int.toNat o3.1) o3.2))]) (L' := []) (by kernel_rfl) (by kernel_rfl) ?_
  cases h
  exact To.done hΓ (by kernel_rfl)
def port_Text_j1 (n : Nat) (v3 : List UInt8) (v9 : Bool) (b1 : S_api_Port) : Option ((List UInt8)) :=
  if v9 = true then ((digit_Text n b1.f_Out).bind fun r2 =>
  some r2)
  else some v3
theorem ok_port_Text_j1 (n : Nat) (v3 : List UInt8) (v9 : Bool) (b1 : S_api_Port) (o : (List UInt8)) (h : port_Text_j1 n v3 v9 b1 = some o) {F0 : Fz} {w0 : Pt Tryd.prog} {Q : Exit → Act → World → Prop} (hQ : To 36 F0 w0 [(1, .own 1 0), (3, .str o)] [(1, 24, [.str b1.f_Host, .val (.int .i64 b1.f_Out), .val (.int .i64 b1.f_In), .str b1.f_Proto])] .normal Q) : Wp Tryd.prog 36 F0 w0 [(1, .own 1 0), (3, .str v3), (9, .val (.bool v9))] [(1, 24, [.str b1.f_Host, .val (.int .i64 b1.f_Out), .val (.int .i64 b1.f_In), .str b1.f_Proto])] (cB (cA (cB (cB (cB (cF Tryd.f13)))))) Q := by
  unfold port_Text_j1 at h
  refine Wp.cond (b := v9) (by kernel_rfl) (fun hb => ?_) (fun hb => ?_)
  · replace h := if_t hb h
    obtain ⟨r2, hr2, h⟩ := bind_of h
    refine Wp.region hΓ [] [(2, .str r2)] [] [1, 3] [1] (K' := [(1, .own 1 0), (3, .str r2)]) (L' := [(1, 24, [.str b1.f_Host, .val (.int .i64 b1.f_Out), .val (.int .i64 b1.f_In), .str b1.f_Proto])]) (ob := [(true = true → CX Tryd.prog 38 [.val (.int .i64 b1.f_Out)] (.str r2))]) (by kernel_rfl) (AllP.cons (fun _ => cx (ok_digit_Text n b1.f_Out _ hr2)) AllP.nil) ?_
    refine To.keep (kk := [1, 3]) (kl := [1]) (K' := [(1, .own 1 0), (3, .str r2)]) (L' := [(1, 24, [.str b1.f_Host, .val (.int .i64 b1.f_Out), .val (.int .i64 b1.f_In), .str b1.f_Proto])]) (by kernel_rfl) (by kernel_rfl) ?_
    cases h
    exact hQ
  · replace h := if_f hb h
    refine Wp.skip ?_
    refine To.keep (kk := [1, 3]) (kl := [1]) (K' := [(1, .own 1 0), (3, .str v3)]) (L' := [(1, 24, [.str b1.f_Host, .val (.int .i64 b1.f_Out), .val (.int .i64 b1.f_In), .str b1.f_Proto])]) (by kernel_rfl) (by kernel_rfl) ?_
    cases h
    exact hQ
def port_Text_j2 (n : Nat) (v3 : List UInt8) (v15 : Bool) (b1 : S_api_Port) : Option ((List UInt8)) :=
  if v15 = true then (if (decide (((List.length b1.f_Host + List.length ([58] : List UInt8) : Nat) : Int) ≤ 9223372036854775807)) = true then (if (decide (((List.length (b1.f_Host ++ [58]) + List.length v3 : Nat) : Int) ≤ 9223372036854775807)) = true then (some ((b1.f_Host ++ [58]) ++ v3)) else none) else none)
  else some v3
theorem ok_port_Text_j2 (n : Nat) (v3 : List UInt8) (v15 : Bool) (b1 : S_api_Port) (o : (List UInt8)) (h : port_Text_j2 n v3 v15 b1 = some o) {F0 : Fz} {w0 : Pt Tryd.prog} {Q : Exit → Act → World → Prop} (hQ : To 36 F0 w0 [(1, .own 1 0), (3, .str o)] [(1, 24, [.str b1.f_Host, .val (.int .i64 b1.f_Out), .val (.int .i64 b1.f_In), .str b1.f_Proto])] .normal Q) : Wp Tryd.prog 36 F0 w0 [(1, .own 1 0), (3, .str v3), (15, .val (.bool v15))] [(1, 24, [.str b1.f_Host, .val (.int .i64 b1.f_Out), .val (.int .i64 b1.f_In), .str b1.f_Proto])] (cB (cA (cB (cB (cB (cB (cF Tryd.f13))))))) Q := by
  unfold port_Text_j2 at h
  refine Wp.cond (b := v15) (by kernel_rfl) (fun hb => ?_) (fun hb => ?_)
  · replace h := if_t hb h
    obtain ⟨hc3, h⟩ := chk_of h
    obtain ⟨hc4, h⟩ := chk_of h
    refine Wp.region hΓ [] [] [] [1, 3] [1] (K' := [(1, .own 1 0), (3, .str ((b1.f_Host ++ [58]) ++ v3))]) (L' := [(1, 24, [.str b1.f_Host, .val (.int .i64 b1.f_Out), .val (.int .i64 b1.f_In), .str b1.f_Proto])]) (ob := [(decide (((List.length b1.f_Host + List.length ([58] : List UInt8) : Nat) : Int) ≤ 9223372036854775807)) = true, (decide (((List.length (b1.f_Host ++ [58]) + List.length v3 : Nat) : Int) ≤ 9223372036854775807)) = true]) (by kernel_rfl) (AllP.cons hc3 (AllP.cons hc4 AllP.nil)) ?_
    refine To.keep (kk := [1, 3]) (kl := [1]) (K' := [(1, .own 1 0), (3, .str ((b1.f_Host ++ [58]) ++ v3))]) (L' := [(1, 24, [.str b1.f_Host, .val (.int .i64 b1.f_Out), .val (.int .i64 b1.f_In), .str b1.f_Proto])]) (by kernel_rfl) (by kernel_rfl) ?_
    cases h
    exact hQ
  · replace h := if_f hb h
    refine Wp.skip ?_
    refine To.keep (kk := [1, 3]) (kl := [1]) (K' := [(1, .own 1 0), (3, .str v3)]) (L' := [(1, 24, [.str b1.f_Host, .val (.int .i64 b1.f_Out), .val (.int .i64 b1.f_In), .str b1.f_Proto])]) (by kernel_rfl) (by kernel_rfl) ?_
    cases h
    exact hQ
def port_Text_j3 (n : Nat) (v3 : List UInt8) (v22 : Bool) (b1 : S_api_Port) : Option ((List UInt8)) :=
  if v22 = true then (if (decide (((List.length v3 + List.length ([58] : List UInt8) : Nat) : Int) ≤ 9223372036854775807)) = true then (some (v3 ++ [58])) else none)
  else some v3
theorem ok_port_Text_j3 (n : Nat) (v3 : List UInt8) (v22 : Bool) (b1 : S_api_Port) (o : (List UInt8)) (h : port_Text_j3 n v3 v22 b1 = some o) {F0 : Fz} {w0 : Pt Tryd.prog} {Q : Exit → Act → World → Prop} (hQ : To 36 F0 w0 [(1, .own 1 0), (3, .str o)] [(1, 24, [.str b1.f_Host, .val (.int .i64 b1.f_Out), .val (.int .i64 b1.f_In), .str b1.f_Proto])] .normal Q) : Wp Tryd.prog 36 F0 w0 [(1, .own 1 0), (3, .str v3), (22, .val (.bool v22))] [(1, 24, [.str b1.f_Host, .val (.int .i64 b1.f_Out), .val (.int .i64 b1.f_In), .str b1.f_Proto])] (cB (cA (cB (cB (cB (cB (cB (cF Tryd.f13)))))))) Q := by
  unfold port_Text_j3 at h
  refine Wp.cond (b := v22) (by kernel_rfl) (fun hb => ?_) (fun hb => ?_)
  · replace h := if_t hb h
    obtain ⟨hc4, h⟩ := chk_of h
    refine Wp.region hΓ [] [] [] [1, 3] [1] (K' := [(1, .own 1 0), (3, .str (v3 ++ [58]))]) (L' := [(1, 24, [.str b1.f_Host, .val (.int .i64 b1.f_Out), .val (.int .i64 b1.f_In), .str b1.f_Proto])]) (ob := [(decide (((List.length v3 + List.length ([58] : List UInt8) : Nat) : Int) ≤ 9223372036854775807)) = true]) (by kernel_rfl) (AllP.cons hc4 AllP.nil) ?_
    refine To.keep (kk := [1, 3]) (kl := [1]) (K' := [(1, .own 1 0), (3, .str (v3 ++ [58]))]) (L' := [(1, 24, [.str b1.f_Host, .val (.int .i64 b1.f_Out), .val (.int .i64 b1.f_In), .str b1.f_Proto])]) (by kernel_rfl) (by kernel_rfl) ?_
    cases h
    exact hQ
  · replace h := if_f hb h
    refine Wp.skip ?_
    refine To.keep (kk := [1, 3]) (kl := [1]) (K' := [(1, .own 1 0), (3, .str v3)]) (L' := [(1, 24, [.str b1.f_Host, .val (.int .i64 b1.f_Out), .val (.int .i64 b1.f_In), .str b1.f_Proto])]) (by kernel_rfl) (by kernel_rfl) ?_
    cases h
    exact hQ
def port_Text_j4 (n : Nat) (v3 : List UInt8) (v32 : Bool) : Option ((List UInt8)) :=
  if v32 = true then (if (decide (((List.length v3 + List.length ([47, 117, 100, 112] : List UInt8) : Nat) : Int) ≤ 9223372036854775807)) = true then (some (v3 ++ [47, 117, 100, 112])) else none)
  else some v3
theorem ok_port_Text_j4 (n : Nat) (v3 : List UInt8) (v32 : Bool) (o : (List UInt8)) (h : port_Text_j4 n v3 v32 = some o) {F0 : Fz} {w0 : Pt Tryd.prog} {Q : Exit → Act → World → Prop} (hQ : To 36 F0 w0 [(3, .str o)] [] .normal Q) : Wp Tryd.prog 36 F0 w0 [(3, .str v3), (32, .val (.bool v32))] [] (cB (cA (cB (cB (cB (cB (cB (cB (cB (cF Tryd.f13)))))))))) Q := by
  unfold port_Text_j4 at h
  refine Wp.cond (b := v32) (by kernel_rfl) (fun hb => ?_) (fun hb => ?_)
  · replace h := if_t hb h
    obtain ⟨hc6, h⟩ := chk_of h
    refine Wp.region hΓ [] [] [] [3] [] (K' := [(3, .str (v3 ++ [47, 117, 100, 112]))]) (L' := []) (ob := [(decide (((List.length v3 + List.length ([47, 117, 100, 112] : List UInt8) : Nat) : Int) ≤ 9223372036854775807)) = true]) (by kernel_rfl) (AllP.cons hc6 AllP.nil) ?_
    refine To.keep (kk := [3]) (kl := []) (K' := [(3, .str (v3 ++ [47, 117, 100, 112]))]) (L' := []) (by kernel_rfl) (by kernel_rfl) ?_
    cases h
    exact hQ
  · replace h := if_f hb h
    refine Wp.skip ?_
    refine To.keep (kk := [3]) (kl := []) (K' := [(3, .str v3)]) (L' := []) (by kernel_rfl) (by kernel_rfl) ?_
    cases h
    exact hQ
def port_Text (n : Nat) (a0 : S_api_Port) : Option ((List UInt8)) :=
  (port_Right n a0).bind fun r1 =>
  if (!r1) = true then (some [])
  else ((port_Text_j1 n [] (decide (a0.f_Out > 0)) a0).bind fun o2 =>
  (port_Text_j2 n o2 (!(a0.f_Host == [])) a0).bind fun o3 =>
  (port_Text_j3 n o3 (!(o3 == [])) a0).bind fun o4 =>
  (digit_Text n a0.f_In).bind fun r5 =>
  if (decide (((List.length o4 + List.length r5 : Nat) : Int) ≤ 9223372036854775807)) = true then ((port_Text_j4 n (o4 ++ r5) (a0.f_Proto == [117, 100, 112])).bind fun o6 =>
  some o6) else none)
theorem ok_port_Text (n : Nat) (a0 : S_api_Port) (r : (List UInt8)) (h : port_Text n a0 = some r) : CallsX Tryd.prog 13 [.agg [.str a0.f_Host, .val (.int .i64 a0.f_Out), .val (.int .i64 a0.f_In), .str a0.f_Proto]] (.str r) := by
  unfold port_Text at h
  refine callsX_of (fn := Tryd.f13) (by kernel_rfl) rfl (by kernel_rfl) (Nat.le_of_ble_eq_true (by kernel_rfl)) fun F0 w0 _ => ?_
  refine Wp.keep (kk := [0]) (kl := []) (K' := [(0, .agg [.str a0.f_Host, .val (.int .i64 a0.f_Out), .val (.int .i64 a0.f_In), .str a0.f_Proto])]) (L' := []) (by kernel_rfl) (by kernel_rfl) ?_
  refine Wp.seq ?_
  refine Wp.region hΓ [] [] [] [1] [1] (K' := [(1, .own 1 0)]) (L' := [(1, 24, [.str a0.f_Host, .val (.int .i64 a0.f_Out), .val (.int .i64 a0.f_In), .str a0.f_Proto])]) (ob := []) (by kernel_rfl) AllP.nil ?_
  refine To.thenN ?_
  refine Wp.seq ?_
  refine Wp.seq ?_
  obtain ⟨r1, hr1, h⟩ := bind_of h
  refine Wp.region hΓ [] [(1, .val (.bool r1))] [] [1, 6] [1] (K' := [(1, .own 1 0), (6, .val (.bool (!r1)))]) (L' := [(1, 24, [.str a0.f_Host, .val (.int .i64 a0.f_Out), .val (.int .i64 a0.f_In), .str a0.f_Proto])]) (ob := [(true = true → CX Tryd.prog 12 [.agg [.str a0.f_Host, .val (.int .i64 a0.f_Out), .val (.int .i64 a0.f_In), .str a0.f_Proto]] (.val (.bool r1)))]) (by kernel_rfl) (AllP.cons (fun _ => cx (ok_port_Right n a0 _ hr1)) AllP.nil) ?_
  refine To.thenN ?_
  refine Wp.cond (b := (!r1)) (by kernel_rfl) (fun hb => ?_) (fun hb => ?_)
  · replace h := if_t hb h
    refine Wp.seq ?_
    refine Wp.region hΓ [] [] [] [2] [] (K' := [(2, .str [])]) (L' := []) (ob := []) (by kernel_rfl) AllP.nil ?_
    refine To.thenN ?_
    refine Wp.ret ?_
    refine To.thenR ?_
    refine To.keep (kk := [2]) (kl := []) (K' := [(2, .str [])]) (L' := []) (by kernel_rfl) (by kernel_rfl) ?_
    cases h
    exact To.done hΓ (by kernel_rfl)
  · replace h := if_f hb h
    refine Wp.skip ?_
    refine To.thenN ?_
    refine Wp.seq ?_
    refine Wp.region hΓ [] [] [] [1, 3] [1] (K' := [(1, .own 1 0), (3, .str [])]) (L' := [(1, 24, [.str a0.f_Host, .val (.int .i64 a0.f_Out), .val (.int .i64 a0.f_In), .str a0.f_Proto])]) (ob := []) (by kernel_rfl) AllP.nil ?_
    refine To.thenN ?_
    refine Wp.seq ?_
    refine Wp.seq ?_
    refine Wp.region hΓ [] [] [] [1, 3, 9] [1] (K' := [(1, .own 1 0), (3, .str []), (9, .val (.bool (decide (a0.f_Out > 0))))]) (L' := [(1, 24, [.str a0.f_Host, .val (.int .i64 a0.f_Out), .val (.int .i64 a0.f_In), .str a0.f_Proto])]) (ob := []) (by kernel_rfl) AllP.nil ?_
    refine To.thenN ?_
    obtain ⟨o2, ho2, h⟩ := bind_of h
    refine Wp.keep (kk := [1, 3, 9]) (kl := [1]) (K' := [(1, .own 1 0), (3, .str []), (9, .val (.bool (decide (a0.f_Out > 0))))]) (L' := [(1, 24, [.str a0.f_Host, .val (.int .i64 a0.f_Out), .val (.int .i64 a0.f_In), .str a0.f_Proto])]) (by kernel_rfl) (by kernel_rfl) ?_
    refine ok_port_Text_j1 n [] (decide (a0.f_Out > 0)) a0 o2 ho2 ?_
    refine To.thenN ?_
    refine Wp.seq ?_
    refine Wp.seq ?_
    refine Wp.region hΓ [] [] [] [1, 3, 15] [1] (K' := [(1, .own 1 0), (3, .str o2), (15, .val (.bool (!(a0.f_Host == []))))]) (L' := [(1, 24, [.str a0.f_Host, .val (.int .i64 a0.f_Out), .val (.int .i64 a0.f_In), .str a0.f_Proto])]) (ob := []) (by kernel_rfl) AllP.nil ?_
    refine To.thenN ?_
    obtain ⟨o3, ho3, h⟩ := bind_of h
    refine Wp.keep (kk := [1, 3, 15]) (kl := [1]) (K' := [(1, .own 1 0), (3, .str o2), (15, .val (.bool (!(a0.f_Host == []))))]) (L' := [(1, 24, [.str a0.f_Host, .val (.int .i64 a0.f_Out), .val (.int .i64 a0.f_In), .str a0.f_Proto])]) (by kernel_rfl) (by kernel_rfl) ?_
    refine ok_port_Text_j2 n o2 (!(a0.f_Host == [])) a0 o3 ho3 ?_
    refine To.thenN ?_
    refine Wp.seq ?_
    refine Wp.seq ?_
    refine Wp.region hΓ [] [] [] [1, 3, 22] [1] (K' := [(1, .own 1 0), (3, .str o3), (22, .val (.bool (!(o3 == []))))]) (L' := [(1, 24, [.str a0.f_Host, .val (.int .i64 a0.f_Out), .val (.int .i64 a0.f_In), .str a0.f_Proto])]) (ob := []) (by kernel_rfl) AllP.nil ?_
    refine To.thenN ?_
    obtain ⟨o4, ho4, h⟩ := bind_of h
    refine Wp.keep (kk := [1, 3, 22]) (kl := [1]) (K' := [(1, .own 1 0), (3, .str o3), (22, .val (.bool (!(o3 == []))))]) (L' := [(1, 24, [.str a0.f_Host, .val (.int .i64 a0.f_Out), .val (.int .i64 a0.f_In), .str a0.f_Proto])]) (by kernel_rfl) (by kernel_rfl) ?_
    refine ok_port_Text_j3 n o3 (!(o3 == [])) a0 o4 ho4 ?_
    refine To.thenN ?_
    refine Wp.seq ?_
    obtain ⟨r5, hr5, h⟩ := bind_of h
    obtain ⟨hc7, h⟩ := chk_of h
    refine Wp.region hΓ [] [(3, .str r5)] [] [1, 3] [1] (K' := [(1, .own 1 0), (3, .str (o4 ++ r5))]) (L' := [(1, 24, [.str a0.f_Host, .val (.int .i64 a0.f_Out), .val (.int .i64 a0.f_In), .str a0.f_Proto])]) (ob := [(true = true → CX Tryd.prog 38 [.val (.int .i64 a0.f_In)] (.str r5)), (decide (((List.length o4 + List.length r5 : Nat) : Int) ≤ 9223372036854775807)) = true]) (by kernel_rfl) (AllP.cons (fun _ => cx (ok_digit_Text n a0.f_In _ hr5)) (AllP.cons hc7 AllP.nil)) ?_
    refine To.thenN ?_
    refine Wp.seq ?_
    refine Wp.seq ?_
    refine Wp.region hΓ [] [] [] [3, 32] [] (K' := [(3, .str (o4 ++ r5)), (32, .val (.bool (a0.f_Proto == [117, 100, 112])))]) (L' := []) (ob := []) (by kernel_rfl) AllP.nil ?_
    refine To.thenN ?_
    obtain ⟨o6, ho6, h⟩ := bind_of h
    refine Wp.keep (kk := [3, 32]) (kl := []) (K' := [(3, .str (o4 ++ r5)), (32, .val (.bool (a0.f_Proto == [117, 100, 112])))]) (L' := []) (by kernel_rfl) (by kernel_rfl) ?_
    refine ok_port_Text_j4 n (o4 ++ r5) (a0.f_Proto == [117, 100, 112]) o6 ho6 ?_
    refine To.thenN ?_
    refine Wp.seq ?_
    refine Wp.region hΓ [] [] [] [2] [] (K' := [(2, .str o6)]) (L' := []) (ob := []) (by kernel_rfl) AllP.nil ?_
    refine To.thenN ?_
    refine Wp.ret ?_
    refine To.keep (kk := [2]) (kl := []) (K' := [(2, .str o6)]) (L' := []) (by kernel_rfl) (by kernel_rfl) ?_
    cases h
    exact To.done hΓ (by kernel_rfl)
def law16_awake (n : Nat) : Option (Bool) :=
  (port_Parse n [49, 50, 55, 46, 48, 46, 48, 46, 49, 58, 56, 48, 56, 48, 58, 56, 48, 47, 117, 100, 112]).bind fun r1 =>
  ((if ((bif (r1.2 == 0) then ((r1.1.f_Host == [49, 50, 55, 46, 48, 46, 48, 46, 49]) && ((r1.1.f_Out == 8080) && ((r1.1.f_In == 80) && (r1.1.f_Proto == [117, 100, 112])))) else false) == true) = true then port_Text n r1.1 else some [])).bind fun r2 =>
  ((if ((bif (bif (r1.2 == 0) then ((r1.1.f_Host == [49, 50, 55, 46, 48, 46, 48, 46, 49]) && ((r1.1.f_Out == 8080) && ((r1.1.f_In == 80) && (r1.1.f_Proto == [117, 100, 112])))) else false) then (r2 == [49, 50, 55, 46, 48, 46, 48, 46, 49, 58, 56, 48, 56, 48, 58, 56, 48, 47, 117, 100, 112]) else false) == true) = true then port_Right n r1.1 else some false)).bind fun r3 =>
  lett ((bif (bif (bif (r1.2 == 0) then ((r1.1.f_Host == [49, 50, 55, 46, 48, 46, 48, 46, 49]) && ((r1.1.f_Out == 8080) && ((r1.1.f_In == 80) && (r1.1.f_Proto == [117, 100, 112])))) else false) then (r2 == [49, 50, 55, 46, 48, 46, 48, 46, 49, 58, 56, 48, 56, 48, 58, 56, 48, 47, 117, 100, 112]) else false) then r3 else false) : Bool) fun x4 =>
  some x4
theorem ok_law16_awake (n : Nat) (r : Bool) (h : law16_awake n = some r) : CallsX Tryd.prog 9 [] (.val (.bool r)) := by
  unfold law16_awake at h
  refine callsX_of (fn := Tryd.f9) (by kernel_rfl) rfl (by kernel_rfl) (Nat.le_of_ble_eq_true (by kernel_rfl)) fun F0 w0 _ => ?_
  refine Wp.keep (kk := []) (kl := []) (K' := []) (L' := []) (by kernel_rfl) (by kernel_rfl) ?_
  refine Wp.seq ?_
  refine Wp.region hΓ [] [] [] [] [] (K' := []) (L' := []) (ob := []) (by kernel_rfl) AllP.nil ?_
  refine To.thenN ?_
  refine Wp.seq ?_
  obtain ⟨r1, hr1, h⟩ := bind_of h
  refine Wp.region hΓ [] [(0, .tup [.agg [.str r1.1.f_Host, .val (.int .i64 r1.1.f_Out), .val (.int .i64 r1.1.f_In), .str r1.1.f_Proto], .val (.int .i64 r1.2)])] [] [1, 2] [1] (K' := [(1, .own 1 0), (2, .val (.int .i64 r1.2))]) (L' := [(1, 24, [.str r1.1.f_Host, .val (.int .i64 r1.1.f_Out), .val (.int .i64 r1.1.f_In), .str r1.1.f_Proto])]) (ob := [(true = true → CX Tryd.prog 10 [.str [49, 50, 55, 46, 48, 46, 48, 46, 49, 58, 56, 48, 56, 48, 58, 56, 48, 47, 117, 100, 112]] (.tup [.agg [.str r1.1.f_Host, .val (.int .i64 r1.1.f_Out), .val (.int .i64 r1.1.f_In), .str r1.1.f_Proto], .val (.int .i64 r1.2)]))]) (by kernel_rfl) (AllP.cons (fun _ => cx (ok_port_Parse n [49, 50, 55, 46, 48, 46, 48, 46, 49, 58, 56, 48, 56, 48, 58, 56, 48, 47, 117, 100, 112] _ hr1)) AllP.nil) ?_
  refine To.thenN ?_
  refine Wp.seq ?_
  obtain ⟨r2, hr2, h⟩ := bind_of h
  obtain ⟨r3, hr3, h⟩ := bind_of h
  obtain ⟨x4, hx4, h⟩ := lett_of h
  refine Wp.region hΓ [] [(9, .str r2), (14, .val (.bool r3))] [] [0] [] (K' := [(0, .val (.bool (bif (bif (bif (r1.2 == 0) then ((r1.1.f_Host == [49, 50, 55, 46, 48, 46, 48, 46, 49]) && ((r1.1.f_Out == 8080) && ((r1.1.f_In == 80) && (r1.1.f_Proto == [117, 100, 112])))) else false) then (r2 == [49, 50, 55, 46, 48, 46, 48, 46, 49, 58, 56, 48, 56, 48, 58, 56, 48, 47, 117, 100, 112]) else false) then r3 else false)))]) (L' := []) (ob := [(((bif (r1.2 == 0) then ((r1.1.f_Host == [49, 50, 55, 46, 48, 46, 48, 46, 49]) && ((r1.1.f_Out == 8080) && ((r1.1.f_In == 80) && (r1.1.f_Proto == [117, 100, 112])))) else false) == true) = true → CX Tryd.prog 13 [.agg [.str r1.1.f_Host, .val (.int .i64 r1.1.f_Out), .val (.int .i64 r1.1.f_In), .str r1.1.f_Proto]] (.str r2)), (((bif (bif (r1.2 == 0) then ((r1.1.f_Host == [49, 50, 55, 46, 48, 46, 48, 46, 49]) && ((r1.1.f_Out == 8080) && ((r1.1.f_In == 80) && (r1.1.f_Proto == [117, 100, 112])))) else false) then (r2 == [49, 50, 55, 46, 48, 46, 48, 46, 49, 58, 56, 48, 56, 48, 58, 56, 48, 47, 117, 100, 112]) else false) == true) = true → CX Tryd.prog 12 [.agg [.str r1.1.f_Host, .val (.int .i64 r1.1.f_Out), .val (.int .i64 r1.1.f_In), .str r1.1.f_Proto]] (.val (.bool r3)))]) (by kernel_rfl) (AllP.cons (fun hg => cx (ok_port_Text n r1.1 _ (if_t hg hr2))) (AllP.cons (fun hg => cx (ok_port_Right n r1.1 _ (if_t hg hr3))) AllP.nil)) ?_
  refine To.eq (K' := [(0, .val (.bool x4))]) (L' := []) (by cases hx4; rfl) (by cases hx4; rfl) ?_
  refine To.thenN ?_
  refine Wp.ret ?_
  refine To.keep (kk := [0]) (kl := []) (K' := [(0, .val (.bool x4))]) (L' := []) (by kernel_rfl) (by kernel_rfl) ?_
  cases h
  exact To.done hΓ (by kernel_rfl)
def port_Clash (a0 : S_api_Port) (a1 : S_api_Port) : Bool :=
  lett ((bif (bif (bif (decide (a0.f_Out > 0)) then (a0.f_Out == a1.f_Out) else false) then (a0.f_Proto == a1.f_Proto) else false) then (bif (bif (a0.f_Host == a1.f_Host) then true else (a0.f_Host == [])) then true else (a1.f_Host == [])) else false) : Bool) fun x1 =>
  x1
theorem ok_port_Clash (a0 : S_api_Port) (a1 : S_api_Port) (r : Bool) (h : port_Clash a0 a1 = r) : CallsX Tryd.prog 30 [.agg [.str a0.f_Host, .val (.int .i64 a0.f_Out), .val (.int .i64 a0.f_In), .str a0.f_Proto], .agg [.str a1.f_Host, .val (.int .i64 a1.f_Out), .val (.int .i64 a1.f_In), .str a1.f_Proto]] (.val (.bool r)) := by
  unfold port_Clash at h
  refine callsX_of (fn := Tryd.f30) (by kernel_rfl) rfl (by kernel_rfl) (Nat.le_of_ble_eq_true (by kernel_rfl)) fun F0 w0 _ => ?_
  refine Wp.keep (kk := [0, 1]) (kl := []) (K' := [(0, .agg [.str a0.f_Host, .val (.int .i64 a0.f_Out), .val (.int .i64 a0.f_In), .str a0.f_Proto]), (1, .agg [.str a1.f_Host, .val (.int .i64 a1.f_Out), .val (.int .i64 a1.f_In), .str a1.f_Proto])]) (L' := []) (by kernel_rfl) (by kernel_rfl) ?_
  refine Wp.seq ?_
  refine Wp.region hΓ [] [] [] [2, 3] [2, 3] (K' := [(2, .own 2 0), (3, .own 3 0)]) (L' := [(2, 24, [.str a0.f_Host, .val (.int .i64 a0.f_Out), .val (.int .i64 a0.f_In), .str a0.f_Proto]), (3, 24, [.str a1.f_Host, .val (.int .i64 a1.f_Out), .val (.int .i64 a1.f_In), .str a1.f_Proto])]) (ob := []) (by kernel_rfl) AllP.nil ?_
  refine To.thenN ?_
  refine Wp.seq ?_
  obtain ⟨x1, hx1, h⟩ := lett_of h
  refine Wp.region hΓ [] [] [] [4] [] (K' := [(4, .val (.bool (bif (bif (bif (decide (a0.f_Out > 0)) then (a0.f_Out == a1.f_Out) else false) then (a0.f_Proto == a1.f_Proto) else false) then (bif (bif (a0.f_Host == a1.f_Host) then true else (a0.f_Host == [])) then true else (a1.f_Host == [])) else false)))]) (L' := []) (ob := []) (by kernel_rfl) AllP.nil ?_
  refine To.eq (K' := [(4, .val (.bool x1))]) (L' := []) (by cases hx1; rfl) (by cases hx1; rfl) ?_
  refine To.thenN ?_
  refine Wp.ret ?_
  refine To.keep (kk := [4]) (kl := []) (K' := [(4, .val (.bool x1))]) (L' := []) (by kernel_rfl) (by kernel_rfl) ?_
  cases h
  exact To.done hΓ (by kernel_rfl)
def port_First_1__e (a0 : S_api_Port) (c0 : S_api_Port) : Bool :=
  (port_Clash c0 a0)
theorem ok_port_First_1__e (a0 : S_api_Port) (c0 : S_api_Port) (r : Bool) (h : port_First_1__e a0 c0 = r) : CallsX Tryd.prog 48 [.agg [.str a0.f_Host, .val (.int .i64 a0.f_Out), .val (.int .i64 a0.f_In), .str a0.f_Proto], .el [.str c0.f_Host, .val (.int .i64 c0.f_Out), .val (.int .i64 c0.f_In), .str c0.f_Proto]] (.val (.bool r)) := by
  unfold port_First_1__e at h
  refine callsX_of (fn := Tryd.f48) (by kernel_rfl) rfl (by kernel_rfl) (Nat.le_of_ble_eq_true (by kernel_rfl)) fun F0 w0 _ => ?_
  refine Wp.keep (kk := [0, 1]) (kl := []) (K' := [(0, .agg [.str a0.f_Host, .val (.int .i64 a0.f_Out), .val (.int .i64 a0.f_In), .str a0.f_Proto]), (1, .el [.str c0.f_Host, .val (.int .i64 c0.f_Out), .val (.int .i64 c0.f_In), .str c0.f_Proto])]) (L' := []) (by kernel_rfl) (by kernel_rfl) ?_
  refine Wp.seq ?_
  refine Wp.region hΓ [] [] [] [1, 2] [2] (K' := [(1, .el [.str c0.f_Host, .val (.int .i64 c0.f_Out), .val (.int .i64 c0.f_In), .str c0.f_Proto]), (2, .own 2 0)]) (L' := [(2, 24, [.str a0.f_Host, .val (.int .i64 a0.f_Out), .val (.int .i64 a0.f_In), .str a0.f_Proto])]) (ob := []) (by kernel_rfl) AllP.nil ?_
  refine To.thenN ?_
  refine Wp.seq ?_
  refine Wp.region hΓ [] [(2, .val (.bool (port_Clash c0 a0)))] [] [3] [] (K' := [(3, .val (.bool (port_Clash c0 a0)))]) (L' := []) (ob := [(true = true → CX Tryd.prog 30 [.agg [.str c0.f_Host, .val (.int .i64 c0.f_Out), .val (.int .i64 c0.f_In), .str c0.f_Proto], .agg [.str a0.f_Host, .val (.int .i64 a0.f_Out), .val (.int .i64 a0.f_In), .str a0.f_Proto]] (.val (.bool (port_Clash c0 a0))))]) (by kernel_rfl) (AllP.cons (fun _ => cx (ok_port_Clash c0 a0 _ rfl)) AllP.nil) ?_
  refine To.thenN ?_
  refine Wp.ret ?_
  refine To.keep (kk := [3]) (kl := []) (K' := [(3, .val (.bool (port_Clash c0 a0)))]) (L' := []) (by kernel_rfl) (by kernel_rfl) ?_
  cases h
  exact To.done hΓ (by kernel_rfl)
def slices_IndexFunc_api_Port_api_Port__port_First_1_e_l1 (n : Nat) (v0 : List (S_api_Port)) (v1_0 : S_api_Port) (v7 : Int) : Nat → Int → Option (Sum (Unit) (Int))
  | 0, _ => none
  | k + 1, v8 => if (decide (v8 < v7)) = true then (if (decide (0 ≤ v8 ∧ v8 < (List.length v0 : Int))) = true then (lett (port_First_1__e ((v0)[Int.toNat v8]?.getD (S_api_Port.mk [] 0 0 [])) v1_0) fun r1 =>
  if r1 = true then (some (.inr v8))
  else (slices_IndexFunc_api_Port_api_Port__port_First_1_e_l1 n v0 v1_0 v7 k (IntKind.wrap .i64 (v8 + 1)))) else none)
  else (some (.inl ()))
theorem ok_slices_IndexFunc_api_Port_api_Port__port_First_1_e_l1 (n : Nat) (v0 : List (S_api_Port)) (v1_0 : S_api_Port) (v7 : Int) {F0 : Fz} {w0 : Pt Tryd.prog} {Q : Exit → Act → World → Prop} (k : Nat) : ∀ (v8 : Int) (o : Sum (Unit) (Int)), slices_IndexFunc_api_Port_api_Port__port_First_1_e_l1 n v0 v1_0 v7 k v8 = some o → (Sum.elim (fun s => To 19 F0 w0 [] [] (.exit 0) Q) (fun s => To 19 F0 w0 [(4, .val (.int .i64 s))] [] .ret Q)) o → WL Tryd.prog 19 F0 w0 [(0, .recs (α := S_api_Port) (S_api_Port.mk [] 0 0 []) E_api_Port v0), (1, .fn 48 [.el [.str v1_0.f_Host, .val (.int .i64 v1_0.f_Out), .val (.int .i64 v1_0.f_In), .str v1_0.f_Proto]]), (7, .val (.int .i64 v7)), (8, .val (.int .i64 v8))] [] (cI (cI (cB (cA (cB (cF Tryd.f47)))))) Q := by
  induction k with
  | zero => intro v8 o h; cases h
  | succ k ih =>
    intro v8 o h hQ
    rw [slices_IndexFunc_api_Port_api_Port__port_First_1_e_l1] at h
    refine WL.round ?_
    refine Wp.seq ?_
    refine Wp.region hΓ [] [] [] [0, 1, 7, 8, 9] [] (K' := [(0, .recs (α := S_api_Port) (S_api_Port.mk [] 0 0 []) E_api_Port v0), (1, .fn 48 [.el [.str v1_0.f_Host, .val (.int .i64 v1_0.f_Out), .val (.int .i64 v1_0.f_In), .str v1_0.f_Proto]]), (7, .val (.int .i64 v7)), (8, .val (.int .i64 v8)), (9, .val (.bool (decide (v8 < v7))))]) (L' := []) (ob := []) (by kernel_rfl) AllP.nil ?_
    refine To.thenN ?_
    refine Wp.seq ?_
    refine Wp.cond (b := (decide (v8 < v7))) (by kernel_rfl) (fun hb => ?_) (fun hb => ?_)
    · replace h := if_t hb h
      refine Wp.skip ?_
      refine To.thenN ?_
      refine Wp.seq ?_
      refine Wp.block ?_
      refine Wp.seq ?_
      refine Wp.region hΓ [] [] [] [0, 1, 5, 7, 8] [] (K' := [(0, .recs (α := S_api_Port) (S_api_Port.mk [] 0 0 []) E_api_Port v0), (1, .fn 48 [.el [.str v1_0.f_Host, .val (.int .i64 v1_0.f_Out), .val (.int .i64 v1_0.f_In), .str v1_0.f_Proto]]), (5, .val (.int .i64 v8)), (7, .val (.int .i64 v7)), (8, .val (.int .i64 v8))]) (L' := []) (ob := []) (by kernel_rfl) AllP.nil ?_
      refine To.thenN ?_
      refine Wp.seq ?_
      obtain ⟨hc2, h⟩ := chk_of h
      obtain ⟨r1, hr1, h⟩ := lett_of h
      refine Wp.region hΓ [] [(5, .val (.bool r1))] [] [0, 1, 5, 7, 8, 16] [] (K' := [(0, .recs (α := S_api_Port) (S_api_Port.mk [] 0 0 []) E_api_Port v0), (1, .fn 48 [.el [.str v1_0.f_Host, .val (.int .i64 v1_0.f_Out), .val (.int .i64 v1_0.f_In), .str v1_0.f_Proto]]), (5, .val (.int .i64 v8)), (7, .val (.int .i64 v7)), (8, .val (.int .i64 v8)), (16, .val (.bool r1))]) (L' := []) (ob := [(decide (0 ≤ v8 ∧ v8 < (List.length v0 : Int))) = true, (true = true → CX Tryd.prog 48 [.agg [.str (((v0)[Int.toNat v8]?.getD (S_api_Port.mk [] 0 0 [])).f_Host), .val (.int .i64 (((v0)[Int.toNat v8]?.getD (S_api_Port.mk [] 0 0 [])).f_Out)), .val (.int .i64 (((v0)[Int.toNat v8]?.getD (S_api_Port.mk [] 0 0 [])).f_In)), .str (((v0)[Int.toNat v8]?.getD (S_api_Port.mk [] 0 0 [])).f_Proto)], .el [.str v1_0.f_Host, .val (.int .i64 v1_0.f_Out), .val (.int .i64 v1_0.f_In), .str v1_0.f_Proto]] (.val (.bool r1)))]) (by kernel_rfl) (AllP.cons hc2 (AllP.cons (fun _ => cx (ok_port_First_1__e ((v0)[Int.toNat v8]?.getD (S_api_Port.mk [] 0 0 [])) v1_0 _ hr1)) AllP.nil)) ?_
      refine To.thenN ?_
      refine Wp.cond (b := r1) (by kernel_rfl) (fun hb => ?_) (fun hb => ?_)
      · replace h := if_t hb h
        refine Wp.seq ?_
        refine Wp.region hΓ [] [] [] [4] [] (K' := [(4, .val (.int .i64 v8))]) (L' := []) (ob := []) (by kernel_rfl) AllP.nil ?_
        refine To.thenN ?_
        refine Wp.ret ?_
        refine To.blockR ?_
        refine To.thenR ?_
        refine To.thenR ?_
        refine To.keep (kk := [4]) (kl := []) (K' := [(4, .val (.int .i64 v8))]) (L' := []) (by kernel_rfl) (by kernel_rfl) ?_
        cases h
        exact hQ
      · replace h := if_f hb h
        refine Wp.skip ?_
        refine To.blockN ?_
        refine To.thenN ?_
        refine Wp.region hΓ [] [] [] [0, 1, 7, 8] [] (K' := [(0, .recs (α := S_api_Port) (S_api_Port.mk [] 0 0 []) E_api_Port v0), (1, .fn 48 [.el [.str v1_0.f_Host, .val (.int .i64 v1_0.f_Out), .val (.int .i64 v1_0.f_In), .str v1_0.f_Proto]]), (7, .val (.int .i64 v7)), (8, .val (.int .i64 (IntKind.wrap .i64 (v8 + 1))))]) (L' := []) (ob := []) (by kernel_rfl) AllP.nil ?_
        refine To.keep (kk := [0, 1, 7, 8]) (kl := []) (K' := [(0, .recs (α := S_api_Port) (S_api_Port.mk [] 0 0 []) E_api_Port v0), (1, .fn 48 [.el [.str v1_0.f_Host, .val (.int .i64 v1_0.f_Out), .val (.int .i64 v1_0.f_In), .str v1_0.f_Proto]]), (7, .val (.int .i64 v7)), (8, .val (.int .i64 (IntKind.wrap .i64 (v8 + 1))))]) (L' := []) (by kernel_rfl) (by kernel_rfl) ?_
        refine To.again ?_
        exact ih (IntKind.wrap .i64 (v8 + 1)) _ h hQ
    · replace h := if_f hb h
      refine Wp.exit ?_
      refine To.thenX ?_
      refine To.thenX ?_
      refine To.keep (kk := []) (kl := []) (K' := []) (L' := []) (by kernel_rfl) (by kernel_rfl) ?_
      cases h
      exact hQ
def slices_IndexFunc_api_Port_api_Port__port_First_1_e (n : Nat) (a0 : List (S_api_Port)) (c0 : S_api_Port) : Option (Int) :=
  (slices_IndexFunc_api_Port_api_Port__port_First_1_e_l1 n a0 c0 (List.length a0 : Int) n 0).bind fun o1 =>
  (Sum.elim (fun o1 => some (-1)) (fun o1 => some o1)) o1
theorem ok_slices_IndexFunc_api_Port_api_Port__port_First_1_e (n : Nat) (a0 : List (S_api_Port)) (c0 : S_api_Port) (r : Int) (h : slices_IndexFunc_api_Port_api_Port__port_First_1_e n a0 c0 = some r) : CallsX Tryd.prog 47 [.recs (α := S_api_Port) (S_api_Port.mk [] 0 0 []) E_api_Port a0, .fn 48 [.el [.str c0.f_Host, .val (.int .i64 c0.f_Out), .val (.int .i64 c0.f_In), .str c0.f_Proto]]] (.val (.int .i64 r)) := by
  unfold slices_IndexFunc_api_Port_api_Port__port_First_1_e at h
  refine callsX_of (fn := Tryd.f47) (by kernel_rfl) rfl (by kernel_rfl) (Nat.le_of_ble_eq_true (by kernel_rfl)) fun F0 w0 _ => ?_
  refine Wp.keep (kk := [0, 1]) (kl := []) (K' := [(0, .recs (α := S_api_Port) (S_api_Port.mk [] 0 0 []) E_api_Port a0), (1, .fn 48 [.el [.str c0.f_Host, .val (.int .i64 c0.f_Out), .val (.int .i64 c0.f_In), .str c0.f_Proto]])]) (L' := []) (by kernel_rfl) (by kernel_rfl) ?_
  refine Wp.seq ?_
  refine Wp.region hΓ [] [] [] [0, 1] [] (K' := [(0, .recs (α := S_api_Port) (S_api_Port.mk [] 0 0 []) E_api_Port a0), (1, .fn 48 [.el [.str c0.f_Host, .val (.int .i64 c0.f_Out), .val (.int .i64 c0.f_In), .str c0.f_Proto]])]) (L' := []) (ob := []) (by kernel_rfl) AllP.nil ?_
  refine To.thenN ?_
  refine Wp.seq ?_
  refine Wp.seq ?_
  refine Wp.region hΓ [] [] [] [0, 1, 7, 8] [] (K' := [(0, .recs (α := S_api_Port) (S_api_Port.mk [] 0 0 []) E_api_Port a0), (1, .fn 48 [.el [.str c0.f_Host, .val (.int .i64 c0.f_Out), .val (.int .i64 c0.f_In), .str c0.f_Proto]]), (7, .val (.int .i64 (List.length a0 : Int))), (8, .val (.int .i64 0))]) (L' := []) (ob := []) (by kernel_rfl) AllP.nil ?_
  refine To.thenN ?_
  refine Wp.block ?_
  obtain ⟨o1, ho1, h⟩ := bind_of h
  refine Wp.keep (kk := [0, 1, 7, 8]) (kl := []) (K' := [(0, .recs (α := S_api_Port) (S_api_Port.mk [] 0 0 []) E_api_Port a0), (1, .fn 48 [.el [.str c0.f_Host, .val (.int .i64 c0.f_Out), .val (.int .i64 c0.f_In), .str c0.f_Proto]]), (7, .val (.int .i64 (List.length a0 : Int))), (8, .val (.int .i64 0))]) (L' := []) (by kernel_rfl) (by kernel_rfl) ?_
  refine Wp.loopL ?_
  refine ok_slices_IndexFunc_api_Port_api_Port__port_First_1_e_l1 n a0 c0 (List.length a0 : Int) n 0 o1 ho1 ?_
  rcases o1 with o1 | o1
  · replace h := sum_l h
    refine To.blockX ?_
    refine To.thenN ?_
    refine Wp.seq ?_
    refine Wp.region hΓ [] [] [] [4] [] (K' := [(4, .val (.int .i64 (-1)))]) (L' := []) (ob := []) (by kernel_rfl) AllP.nil ?_
    refine To.thenN ?_
    refine Wp.ret ?_
    refine To.keep (kk := [4]) (kl := []) (K' := [(4, .val (.int .i64 (-1)))]) (L' := []) (by kernel_rfl) (by kernel_rfl) ?_
    cases h
    exact To.done hΓ (by kernel_rfl)
  · replace h := sum_r h
    refine To.blockR ?_
    refine To.thenR ?_
    refine To.keep (kk := [4]) (kl := []) (K' := [(4, .val (.int .i64 o1))]) (L' := []) (by kernel_rfl) (by kernel_rfl) ?_
    cases h
    exact To.done hΓ (by kernel_rfl)
def port_First_l1 (n : Nat) (v0 : List (S_api_Port)) (v8 : List (S_api_Port)) (v9 : Int) : Nat → Int → Option (Sum (Unit) (Int × Int × Bool))
  | 0, _ => none
  | k + 1, v10 => if (decide (v10 < v9)) = true then (if (decide (0 ≤ v10 ∧ v10 < (List.length v8 : Int))) = true then (if (decide (0 ≤ (IntKind.wrap .i64 (v10 + 1)) ∧ (IntKind.wrap .i64 (v10 + 1)) ≤ (List.length v0 : Int))) = true then ((slices_IndexFunc_api_Port_api_Port__port_First_1_e n (List.drop (Int.toNat (IntKind.wrap .i64 (v10 + 1))) v0) ((v8)[Int.toNat v10]?.getD (S_api_Port.mk [] 0 0 []))).bind fun r1 =>
  if (decide (r1 ≥ 0)) = true then (some (.inr (v10, (IntKind.wrap .i64 ((IntKind.wrap .i64 (v10 + 1)) + r1)), true)))
  else (port_First_l1 n v0 v8 v9 k (IntKind.wrap .i64 (v10 + 1)))) else none) else none)
  else (some (.inl ()))
theorem ok_port_First_l1 (n : Nat) (v0 : List (S_api_Port)) (v8 : List (S_api_Port)) (v9 : Int) {F0 : Fz} {w0 : Pt Tryd.prog} {Q : Exit → Act → World → Prop} (k : Nat) : ∀ (v10 : Int) (o : Sum (Unit) (Int × Int × Bool)), port_First_l1 n v0 v8 v9 k v10 = some o → (Sum.elim (fun s => To 29 F0 w0 [] [] (.exit 0) Q) (fun s => To 29 F0 w0 [(2, .val (.int .i64 s.1)), (3, .val (.int .i64 s.2.1)), (4, .val (.bool s.2.2))] [] .ret Q)) o → WL Tryd.prog 29 F0 w0 [(0, .recs (α := S_api_Port) (S_api_Port.mk [] 0 0 []) E_api_Port v0), (8, .recs (α := S_api_Port) (S_api_Port.mk [] 0 0 []) E_api_Port v8), (9, .val (.int .i64 v9)), (10, .val (.int .i64 v10))] [] (cI (cI (cB (cA (cB (cF Tryd.f25)))))) Q := by
  induction k with
  | zero => intro v10 o h; cases h
  | succ k ih =>
    intro v10 o h hQ
    rw [port_First_l1] at h
    refine WL.round ?_
    refine Wp.seq ?_
    refine Wp.region hΓ [] [] [] [0, 8, 9, 10, 11] [] (K' := [(0, .recs (α := S_api_Port) (S_api_Port.mk [] 0 0 []) E_api_Port v0), (8, .recs (α := S_api_Port) (S_api_Port.mk [] 0 0 []) E_api_Port v8), (9, .val (.int .i64 v9)), (10, .val (.int .i64 v10)), (11, .val (.bool (decide (v10 < v9))))]) (L' := []) (ob := []) (by kernel_rfl) AllP.nil ?_
    refine To.thenN ?_
    refine Wp.seq ?_
    refine Wp.cond (b := (decide (v10 < v9))) (by kernel_rfl) (fun hb => ?_) (fun hb => ?_)
    · replace h := if_t hb h
      refine Wp.skip ?_
      refine To.thenN ?_
      refine Wp.seq ?_
      refine Wp.block ?_
      refine Wp.seq ?_
      obtain ⟨hc3, h⟩ := chk_of h
      refine Wp.region hΓ [] [] [] [0, 5, 6, 8, 9, 10] [6] (K' := [(0, .recs (α := S_api_Port) (S_api_Port.mk [] 0 0 []) E_api_Port v0), (5, .val (.int .i64 v10)), (6, .own 6 0), (8, .recs (α := S_api_Port) (S_api_Port.mk [] 0 0 []) E_api_Port v8), (9, .val (.int .i64 v9)), (10, .val (.int .i64 v10))]) (L' := [(6, 24, [.str (((v8)[Int.toNat v10]?.getD (S_api_Port.mk [] 0 0 [])).f_Host), .val (.int .i64 (((v8)[Int.toNat v10]?.getD (S_api_Port.mk [] 0 0 [])).f_Out)), .val (.int .i64 (((v8)[Int.toNat v10]?.getD (S_api_Port.mk [] 0 0 [])).f_In)), .str (((v8)[Int.toNat v10]?.getD (S_api_Port.mk [] 0 0 [])).f_Proto)])]) (ob := [(decide (0 ≤ v10 ∧ v10 < (List.length v8 : Int))) = true]) (by kernel_rfl) (AllP.cons hc3 AllP.nil) ?_
      refine To.thenN ?_
      refine Wp.seq ?_
      obtain ⟨hc2, h⟩ := chk_of h
      obtain ⟨r1, hr1, h⟩ := bind_of h
      refine Wp.region hΓ [(4, [6])] [(5, .val (.int .i64 r1))] [] [0, 5, 7, 8, 9, 10] [] (K' := [(0, .recs (α := S_api_Port) (S_api_Port.mk [] 0 0 []) E_api_Port v0), (5, .val (.int .i64 v10)), (7, .val (.int .i64 r1)), (8, .recs (α := S_api_Port) (S_api_Port.mk [] 0 0 []) E_api_Port v8), (9, .val (.int .i64 v9)), (10, .val (.int .i64 v10))]) (L' := []) (ob := [(decide (0 ≤ (IntKind.wrap .i64 (v10 + 1)) ∧ (IntKind.wrap .i64 (v10 + 1)) ≤ (List.length v0 : Int))) = true, (true = true → CX Tryd.prog 47 [.recs (α := S_api_Port) (S_api_Port.mk [] 0 0 []) E_api_Port (List.drop (Int.toNat (IntKind.wrap .i64 (v10 + 1))) v0), .fn 48 [.el [.str (((v8)[Int.toNat v10]?.getD (S_api_Port.mk [] 0 0 [])).f_Host), .val (.int .i64 (((v8)[Int.toNat v10]?.getD (S_api_Port.mk [] 0 0 [])).f_Out)), .val (.int .i64 (((v8)[Int.toNat v10]?.getD (S_api_Port.mk [] 0 0 [])).f_In)), .str (((v8)[Int.toNat v10]?.getD (S_api_Port.mk [] 0 0 [])).f_Proto)]]] (.val (.int .i64 r1)))]) (by kernel_rfl) (AllP.cons hc2 (AllP.cons (fun _ => cx (ok_slices_IndexFunc_api_Port_api_Port__port_First_1_e n (List.drop (Int.toNat (IntKind.wrap .i64 (v10 + 1))) v0) ((v8)[Int.toNat v10]?.getD (S_api_Port.mk [] 0 0 [])) _ hr1)) AllP.nil)) ?_
      refine To.thenN ?_
      refine Wp.seq ?_
      refine Wp.region hΓ [] [] [] [0, 5, 7, 8, 9, 10, 22] [] (K' := [(0, .recs (α := S_api_Port) (S_api_Port.mk [] 0 0 []) E_api_Port v0), (5, .val (.int .i64 v10)), (7, .val (.int .i64 r1)), (8, .recs (α := S_api_Port) (S_api_Port.mk [] 0 0 []) E_api_Port v8), (9, .val (.int .i64 v9)), (10, .val (.int .i64 v10)), (22, .val (.bool (decide (r1 ≥ 0))))]) (L' := []) (ob := []) (by kernel_rfl) AllP.nil ?_
      refine To.thenN ?_
      refine Wp.cond (b := (decide (r1 ≥ 0))) (by kernel_rfl) (fun hb => ?_) (fun hb => ?_)
      · replace h := if_t hb h
        refine Wp.seq ?_
        refine Wp.region hΓ [] [] [] [2, 3, 4] [] (K' := [(2, .val (.int .i64 v10)), (3, .val (.int .i64 (IntKind.wrap .i64 ((IntKind.wrap .i64 (v10 + 1)) + r1)))), (4, .val (.bool true))]) (L' := []) (ob := []) (by kernel_rfl) AllP.nil ?_
        refine To.thenN ?_
        refine Wp.ret ?_
        refine To.blockR ?_
        refine To.thenR ?_
        refine To.thenR ?_
        refine To.keep (kk := [2, 3, 4]) (kl := []) (K' := [(2, .val (.int .i64 v10)), (3, .val (.int .i64 (IntKind.wrap .i64 ((IntKind.wrap .i64 (v10 + 1)) + r1)))), (4, .val (.bool true))]) (L' := []) (by kernel_rfl) (by kernel_rfl) ?_
        cases h
        exact hQ
      · replace h := if_f hb h
        refine Wp.skip ?_
        refine To.blockN ?_
        refine To.thenN ?_
        refine Wp.region hΓ [] [] [] [0, 8, 9, 10] [] (K' := [(0, .recs (α := S_api_Port) (S_api_Port.mk [] 0 0 []) E_api_Port v0), (8, .recs (α := S_api_Port) (S_api_Port.mk [] 0 0 []) E_api_Port v8), (9, .val (.int .i64 v9)), (10, .val (.int .i64 (IntKind.wrap .i64 (v10 + 1))))]) (L' := []) (ob := []) (by kernel_rfl) AllP.nil ?_
        refine To.keep (kk := [0, 8, 9, 10]) (kl := []) (K' := [(0, .recs (α := S_api_Port) (S_api_Port.mk [] 0 0 []) E_api_Port v0), (8, .recs (α := S_api_Port) (S_api_Port.mk [] 0 0 []) E_api_Port v8), (9, .val (.int .i64 v9)), (10, .val (.int .i64 (IntKind.wrap .i64 (v10 + 1))))]) (L' := []) (by kernel_rfl) (by kernel_rfl) ?_
        refine To.again ?_
        exact ih (IntKind.wrap .i64 (v10 + 1)) _ h hQ
    · replace h := if_f hb h
      refine Wp.exit ?_
      refine To.thenX ?_
      refine To.thenX ?_
      refine To.keep (kk := []) (kl := []) (K' := []) (L' := []) (by kernel_rfl) (by kernel_rfl) ?_
      cases h
      exact hQ
def port_First (n : Nat) (a0 : List (S_api_Port)) : Option (Int × Int × Bool) :=
  (port_First_l1 n a0 a0 (List.length a0 : Int) n 0).bind fun o1 =>
  (Sum.elim (fun o1 => some (0, 0, false)) (fun o1 => some (o1.1, o1.2.1, o1.2.2))) o1
theorem ok_port_First (n : Nat) (a0 : List (S_api_Port)) (r : Int × Int × Bool) (h : port_First n a0 = some r) : CallsX Tryd.prog 25 [.recs (α := S_api_Port) (S_api_Port.mk [] 0 0 []) E_api_Port a0] (.tup [.val (.int .i64 r.1), .val (.int .i64 r.2.1), .val (.bool r.2.2)]) := by
  unfold port_First at h
  refine callsX_of (fn := Tryd.f25) (by kernel_rfl) rfl (by kernel_rfl) (Nat.le_of_ble_eq_true (by kernel_rfl)) fun F0 w0 _ => ?_
  refine Wp.keep (kk := [0]) (kl := []) (K' := [(0, .recs (α := S_api_Port) (S_api_Port.mk [] 0 0 []) E_api_Port a0)]) (L' := []) (by kernel_rfl) (by kernel_rfl) ?_
  refine Wp.seq ?_
  refine Wp.region hΓ [] [] [] [0] [] (K' := [(0, .recs (α := S_api_Port) (S_api_Port.mk [] 0 0 []) E_api_Port a0)]) (L' := []) (ob := []) (by kernel_rfl) AllP.nil ?_
  refine To.thenN ?_
  refine Wp.seq ?_
  refine Wp.seq ?_
  refine Wp.region hΓ [] [] [] [0, 8, 9, 10] [] (K' := [(0, .recs (α := S_api_Port) (S_api_Port.mk [] 0 0 []) E_api_Port a0), (8, .recs (α := S_api_Port) (S_api_Port.mk [] 0 0 []) E_api_Port a0), (9, .val (.int .i64 (List.length a0 : Int))), (10, .val (.int .i64 0))]) (L' := []) (ob := []) (by kernel_rfl) AllP.nil ?_
  refine To.thenN ?_
  refine Wp.block ?_
  obtain ⟨o1, ho1, h⟩ := bind_of h
  refine Wp.keep (kk := [0, 8, 9, 10]) (kl := []) (K' := [(0, .recs (α := S_api_Port) (S_api_Port.mk [] 0 0 []) E_api_Port a0), (8, .recs (α := S_api_Port) (S_api_Port.mk [] 0 0 []) E_api_Port a0), (9, .val (.int .i64 (List.length a0 : Int))), (10, .val (.int .i64 0))]) (L' := []) (by kernel_rfl) (by kernel_rfl) ?_
  refine Wp.loopL ?_
  refine ok_port_First_l1 n a0 a0 (List.length a0 : Int) n 0 o1 ho1 ?_
  rcases o1 with o1 | o1
  · replace h := sum_l h
    refine To.blockX ?_
    refine To.thenN ?_
    refine Wp.seq ?_
    refine Wp.region hΓ [] [] [] [2, 3, 4] [] (K' := [(2, .val (.int .i64 0)), (3, .val (.int .i64 0)), (4, .val (.bool false))]) (L' := []) (ob := []) (by kernel_rfl) AllP.nil ?_
    refine To.thenN ?_
    refine Wp.ret ?_
    refine To.keep (kk := [2, 3, 4]) (kl := []) (K' := [(2, .val (.int .i64 0)), (3, .val (.int .i64 0)), (4, .val (.bool false))]) (L' := []) (by kernel_rfl) (by kernel_rfl) ?_
    cases h
    exact To.done hΓ (by kernel_rfl)
  · replace h := sum_r h
    refine To.blockR ?_
    refine To.thenR ?_
    refine To.keep (kk := [2, 3, 4]) (kl := []) (K' := [(2, .val (.int .i64 o1.1)), (3, .val (.int .i64 o1.2.1)), (4, .val (.bool o1.2.2))]) (L' := []) (by kernel_rfl) (by kernel_rfl) ?_
    cases h
    exact To.done hΓ (by kernel_rfl)
def ref16_Clash (a0 : S_api_Port) (a1 : S_api_Port) : Bool :=
  if (bif (bif (decide (a0.f_Out < 1)) then true else (a0.f_Out != a1.f_Out)) then true else (!(a0.f_Proto == a1.f_Proto))) = true then false
  else (lett ((bif (bif (a0.f_Host == a1.f_Host) then true else ((List.length a0.f_Host : Int) == 0)) then true else ((List.length a1.f_Host : Int) == 0)) : Bool) fun x1 =>
  x1)
theorem ok_ref16_Clash (a0 : S_api_Port) (a1 : S_api_Port) (r : Bool) (h : ref16_Clash a0 a1 = r) : CallsX Tryd.prog 31 [.agg [.str a0.f_Host, .val (.int .i64 a0.f_Out), .val (.int .i64 a0.f_In), .str a0.f_Proto], .agg [.str a1.f_Host, .val (.int .i64 a1.f_Out), .val (.int .i64 a1.f_In), .str a1.f_Proto]] (.val (.bool r)) := by
  unfold ref16_Clash at h
  refine callsX_of (fn := Tryd.f31) (by kernel_rfl) rfl (by kernel_rfl) (Nat.le_of_ble_eq_true (by kernel_rfl)) fun F0 w0 _ => ?_
  refine Wp.keep (kk := [0, 1]) (kl := []) (K' := [(0, .agg [.str a0.f_Host, .val (.int .i64 a0.f_Out), .val (.int .i64 a0.f_In), .str a0.f_Proto]), (1, .agg [.str a1.f_Host, .val (.int .i64 a1.f_Out), .val (.int .i64 a1.f_In), .str a1.f_Proto])]) (L' := []) (by kernel_rfl) (by kernel_rfl) ?_
  refine Wp.seq ?_
  refine Wp.region hΓ [] [] [] [2, 3] [2, 3] (K' := [(2, .own 2 0), (3, .own 3 0)]) (L' := [(2, 24, [.str a0.f_Host, .val (.int .i64 a0.f_Out), .val (.int .i64 a0.f_In), .str a0.f_Proto]), (3, 24, [.str a1.f_Host, .val (.int .i64 a1.f_Out), .val (.int .i64 a1.f_In), .str a1.f_Proto])]) (ob := []) (by kernel_rfl) AllP.nil ?_
  refine To.thenN ?_
  refine Wp.seq ?_
  refine Wp.seq ?_
  refine Wp.region hΓ [] [] [] [2, 3, 21] [2, 3] (K' := [(2, .own 2 0), (3, .own 3 0), (21, .val (.bool (bif (bif (decide (a0.f_Out < 1)) then true else (a0.f_Out != a1.f_Out)) then true else (!(a0.f_Proto == a1.f_Proto)))))]) (L' := [(2, 24, [.str a0.f_Host, .val (.int .i64 a0.f_Out), .val (.int .i64 a0.f_In), .str a0.f_Proto]), (3, 24, [.str a1.f_Host, .val (.int .i64 a1.f_Out), .val (.int .i64 a1.f_In), .str a1.f_Proto])]) (ob := []) (by kernel_rfl) AllP.nil ?_
  refine To.thenN ?_
  refine Wp.cond (b := (bif (bif (decide (a0.f_Out < 1)) then true else (a0.f_Out != a1.f_Out)) then true else (!(a0.f_Proto == a1.f_Proto)))) (by kernel_rfl) (fun hb => ?_) (fun hb => ?_)
  · replace h := if_t hb h
    refine Wp.seq ?_
    refine Wp.region hΓ [] [] [] [4] [] (K' := [(4, .val (.bool false))]) (L' := []) (ob := []) (by kernel_rfl) AllP.nil ?_
    refine To.thenN ?_
    refine Wp.ret ?_
    refine To.thenR ?_
    refine To.keep (kk := [4]) (kl := []) (K' := [(4, .val (.bool false))]) (L' := []) (by kernel_rfl) (by kernel_rfl) ?_
    cases h
    exact To.done hΓ (by kernel_rfl)
  · replace h := if_f hb h
    refine Wp.skip ?_
    refine To.thenN ?_
    refine Wp.seq ?_
    obtain ⟨x1, hx1, h⟩ := lett_of h
    refine Wp.region hΓ [] [] [] [4] [] (K' := [(4, .val (.bool (bif (bif (a0.f_Host == a1.f_Host) then true else ((List.length a0.f_Host : Int) == 0)) then true else ((List.length a1.f_Host : Int) == 0))))]) (L' := []) (ob := []) (by kernel_rfl) AllP.nil ?_
    refine To.eq (K' := [(4, .val (.bool x1))]) (L' := []) (by cases hx1; rfl) (by cases hx1; rfl) ?_
    refine To.thenN ?_
    refine Wp.ret ?_
    refine To.keep (kk := [4]) (kl := []) (K' := [(4, .val (.bool x1))]) (L' := []) (by kernel_rfl) (by kernel_rfl) ?_
    cases h
    exact To.done hΓ (by kernel_rfl)
def ref16_First_l2 (n : Nat) (v0 : List (S_api_Port)) (v5 : Int) : Nat → Int → Option (Sum (Unit) (Int × Int × Bool))
  | 0, _ => none
  | k + 1, v6 => if (decide (v6 < (List.length v0 : Int))) = true then (if (decide (0 ≤ v5 ∧ v5 < (List.length v0 : Int))) = true then (if (decide (0 ≤ v6 ∧ v6 < (List.length v0 : Int))) = true then (lett (ref16_Clash ((v0)[Int.toNat v5]?.getD (S_api_Port.mk [] 0 0 [])) ((v0)[Int.toNat v6]?.getD (S_api_Port.mk [] 0 0 []))) fun r1 =>
  if r1 = true then (some (.inr (v5, v6, true)))
  else (ref16_First_l2 n v0 v5 k (IntKind.wrap .i64 (v6 + 1)))) else none) else none)
  else (some (.inl ()))
theorem ok_ref16_First_l2 (n : Nat) (v0 : List (S_api_Port)) (v5 : Int) {F0 : Fz} {w0 : Pt Tryd.prog} {Q : Exit → Act → World → Prop} (k : Nat) : ∀ (v6 : Int) (o : Sum (Unit) (Int × Int × Bool)), ref16_First_l2 n v0 v5 k v6 = some o → (Sum.elim (fun s => To 32 F0 w0 [(0, .recs (α := S_api_Port) (S_api_Port.mk [] 0 0 []) E_api_Port v0), (5, .val (.int .i64 v5))] [] (.exit 2) Q) (fun s => To 32 F0 w0 [(2, .val (.int .i64 s.1)), (3, .val (.int .i64 s.2.1)), (4, .val (.bool s.2.2))] [] .ret Q)) o → WL Tryd.prog 32 F0 w0 [(0, .recs (α := S_api_Port) (S_api_Port.mk [] 0 0 []) E_api_Port v0), (5, .val (.int .i64 v5)), (6, .val (.int .i64 v6))] [] (cI (cI (cB (cI (cA (cB (cI (cI (cB (cA (cB (cF Tryd.f26)))))))))))) Q := by
  induction k with
  | zero => intro v6 o h; cases h
  | succ k ih =>
    intro v6 o h hQ
    rw [ref16_First_l2] at h
    refine WL.round ?_
    refine Wp.seq ?_
    refine Wp.seq ?_
    refine Wp.region hΓ [] [] [] [0, 5, 6, 18] [] (K' := [(0, .recs (α := S_api_Port) (S_api_Port.mk [] 0 0 []) E_api_Port v0), (5, .val (.int .i64 v5)), (6, .val (.int .i64 v6)), (18, .val (.bool (decide (v6 < (List.length v0 : Int)))))]) (L' := []) (ob := []) (by kernel_rfl) AllP.nil ?_
    refine To.thenN ?_
    refine Wp.cond (b := (decide (v6 < (List.length v0 : Int)))) (by kernel_rfl) (fun hb => ?_) (fun hb => ?_)
    · replace h := if_t hb h
      refine Wp.skip ?_
      refine To.thenN ?_
      refine Wp.seq ?_
      refine Wp.block ?_
      refine Wp.seq ?_
      obtain ⟨hc2, h⟩ := chk_of h
      obtain ⟨hc3, h⟩ := chk_of h
      obtain ⟨r1, hr1, h⟩ := lett_of h
      refine Wp.regionD hm hΓ [(8, .val (.bool r1))] [0, 5, 6, 29] [] (K' := [(0, .recs (α := S_api_Port) (S_api_Port.mk [] 0 0 []) E_api_Port v0), (5, .val (.int .i64 v5)), (6, .val (.int .i64 v6)), (29, .val (.bool r1))]) (L' := []) (ob := [(decide (0 ≤ v5 ∧ v5 < (List.length v0 : Int))) = true, (decide (0 ≤ v6 ∧ v6 < (List.length v0 : Int))) = true, (true = true → CX Tryd.prog 31 [.agg [.str (((v0)[Int.toNat v5]?.getD (S_api_Port.mk [] 0 0 [])).f_Host), .val (.int .i64 (((v0)[Int.toNat v5]?.getD (S_api_Port.mk [] 0 0 [])).f_Out)), .val (.int .i64 (((v0)[Int.toNat v5]?.getD (S_api_Port.mk [] 0 0 [])).f_In)), .str (((v0)[Int.toNat v5]?.getD (S_api_Port.mk [] 0 0 [])).f_Proto)], .agg [.str (((v0)[Int.toNat v6]?.getD (S_api_Port.mk [] 0 0 [])).f_Host), .val (.int .i64 (((v0)[Int.toNat v6]?.getD (S_api_Port.mk [] 0 0 [])).f_Out)), .val (.int .i64 (((v0)[Int.toNat v6]?.getD (S_api_Port.mk [] 0 0 [])).f_In)), .str (((v0)[Int.toNat v6]?.getD (S_api_Port.mk [] 0 0 [])).f_Proto)]] (.val (.bool r1)))]) (by kernel_rfl) (AllP.cons hc2 (AllP.cons hc3 (AllP.cons (fun _ => cx (ok_ref16_Clash ((v0)[Int.toNat v5]?.getD (S_api_Port.mk [] 0 0 [])) ((v0)[Int.toNat v6]?.getD (S_api_Port.mk [] 0 0 [])) _ hr1)) AllP.nil))) ?_
      refine To.thenN ?_
      refine Wp.cond (b := r1) (by kernel_rfl) (fun hb => ?_) (fun hb => ?_)
      · replace h := if_t hb h
        refine Wp.seq ?_
        refine Wp.region hΓ [] [] [] [2, 3, 4] [] (K' := [(2, .val (.int .i64 v5)), (3, .val (.int .i64 v6)), (4, .val (.bool true))]) (L' := []) (ob := []) (by kernel_rfl) AllP.nil ?_
        refine To.thenN ?_
        refine Wp.ret ?_
        refine To.blockR ?_
        refine To.thenR ?_
        refine To.thenR ?_
        refine To.keep (kk := [2, 3, 4]) (kl := []) (K' := [(2, .val (.int .i64 v5)), (3, .val (.int .i64 v6)), (4, .val (.bool true))]) (L' := []) (by kernel_rfl) (by kernel_rfl) ?_
        cases h
        exact hQ
      · replace h := if_f hb h
        refine Wp.skip ?_
        refine To.blockN ?_
        refine To.thenN ?_
        refine Wp.region hΓ [] [] [] [0, 5, 6] [] (K' := [(0, .recs (α := S_api_Port) (S_api_Port.mk [] 0 0 []) E_api_Port v0), (5, .val (.int .i64 v5)), (6, .val (.int .i64 (IntKind.wrap .i64 (v6 + 1))))]) (L' := []) (ob := []) (by kernel_rfl) AllP.nil ?_
        refine To.keep (kk := [0, 5, 6]) (kl := []) (K' := [(0, .recs (α := S_api_Port) (S_api_Port.mk [] 0 0 []) E_api_Port v0), (5, .val (.int .i64 v5)), (6, .val (.int .i64 (IntKind.wrap .i64 (v6 + 1))))]) (L' := []) (by kernel_rfl) (by kernel_rfl) ?_
        refine To.again ?_
        exact ih (IntKind.wrap .i64 (v6 + 1)) _ h hQ
    · replace h := if_f hb h
      refine Wp.exit ?_
      refine To.thenX ?_
      refine To.thenX ?_
      refine To.keep (kk := [0, 5]) (kl := []) (K' := [(0, .recs (α := S_api_Port) (S_api_Port.mk [] 0 0 []) E_api_Port v0), (5, .val (.int .i64 v5))]) (L' := []) (by kernel_rfl) (by kernel_rfl) ?_
      cases h
      exact hQ
def ref16_First_l1 (n : Nat) (v0 : List (S_api_Port)) : Nat → Int → Option (Sum (Unit) (Int × Int × Bool))
  | 0, _ => none
  | k + 1, v5 => if (decide (v5 < (List.length v0 : Int))) = true then ((ref16_First_l2 n v0 v5 n (IntKind.wrap .i64 (v5 + 1))).bind fun o1 =>
  (Sum.elim (fun o1 => ref16_First_l1 n v0 k (IntKind.wrap .i64 (v5 + 1))) (fun o1 => some (.inr (o1.1, o1.2.1, o1.2.2)))) o1)
  else (some (.inl ()))
theorem ok_ref16_First_l1 (n : Nat) (v0 : List (S_api_Port)) {F0 : Fz} {w0 : Pt Tryd.prog} {Q : Exit → Act → World → Prop} (k : Nat) : ∀ (v5 : Int) (o : Sum (Unit) (Int × Int × Bool)), ref16_First_l1 n v0 k v5 = some o → (Sum.elim (fun s => To 32 F0 w0 [] [] (.exit 0) Q) (fun s => To 32 F0 w0 [(2, .val (.int .i64 s.1)), (3, .val (.int .i64 s.2.1)), (4, .val (.bool s.2.2))] [] .ret Q)) o → WL Tryd.prog 32 F0 w0 [(0, .recs (α := S_api_Port) (S_api_Port.mk [] 0 0 []) E_api_Port v0), (5, .val (.int .i64 v5))] [] (cI (cI (cB (cA (cB (cF Tryd.f26)))))) Q := by
  induction k with
  | zero => intro v5 o h; cases h
  | succ k ih =>
    intro v5 o h hQ
    rw [ref16_First_l1] at h
    refine WL.round ?_
    refine Wp.seq ?_
    refine Wp.seq ?_
    refine Wp.region hΓ [] [] [] [0, 5, 10] [] (K' := [(0, .recs (α := S_api_Port) (S_api_Port.mk [] 0 0 []) E_api_Port v0), (5, .val (.int .i64 v5)), (10, .val (.bool (decide (v5 < (List.length v0 : Int)))))]) (L' := []) (ob := []) (by kernel_rfl) AllP.nil ?_
    refine To.thenN ?_
    refine Wp.cond (b := (decide (v5 < (List.length v0 : Int)))) (by kernel_rfl) (fun hb => ?_) (fun hb => ?_)
    · replace h := if_t hb h
      refine Wp.skip ?_
      refine To.thenN ?_
      refine Wp.seq ?_
      refine Wp.block ?_
      refine Wp.seq ?_
      refine Wp.region hΓ [] [] [] [0, 5, 6] [] (K' := [(0, .recs (α := S_api_Port) (S_api_Port.mk [] 0 0 []) E_api_Port v0), (5, .val (.int .i64 v5)), (6, .val (.int .i64 (IntKind.wrap .i64 (v5 + 1))))]) (L' := []) (ob := []) (by kernel_rfl) AllP.nil ?_
      refine To.thenN ?_
      refine Wp.block ?_
      obtain ⟨o1, ho1, h⟩ := bind_of h
      refine Wp.keep (kk := [0, 5, 6]) (kl := []) (K' := [(0, .recs (α := S_api_Port) (S_api_Port.mk [] 0 0 []) E_api_Port v0), (5, .val (.int .i64 v5)), (6, .val (.int .i64 (IntKind.wrap .i64 (v5 + 1))))]) (L' := []) (by kernel_rfl) (by kernel_rfl) ?_
      refine Wp.loopL ?_
      refine ok_ref16_First_l2 n v0 v5 n (IntKind.wrap .i64 (v5 + 1)) o1 ho1 ?_
      rcases o1 with o1 | o1
      · replace h := sum_l h
        refine To.blockX ?_
        refine To.blockN ?_
        refine To.thenN ?_
        refine Wp.region hΓ [] [] [] [0, 5] [] (K' := [(0, .recs (α := S_api_Port) (S_api_Port.mk [] 0 0 []) E_api_Port v0), (5, .val (.int .i64 (IntKind.wrap .i64 (v5 + 1))))]) (L' := []) (ob := []) (by kernel_rfl) AllP.nil ?_
        refine To.keep (kk := [0, 5]) (kl := []) (K' := [(0, .recs (α := S_api_Port) (S_api_Port.mk [] 0 0 []) E_api_Port v0), (5, .val (.int .i64 (IntKind.wrap .i64 (v5 + 1))))]) (L' := []) (by kernel_rfl) (by kernel_rfl) ?_
        refine To.again ?_
        exact ih (IntKind.wrap .i64 (v5 + 1)) _ h hQ
      · replace h := sum_r h
        refine To.blockR ?_
        refine To.blockR ?_
        refine To.thenR ?_
        refine To.thenR ?_
        refine To.keep (kk := [2, 3, 4]) (kl := []) (K' := [(2, .val (.int .i64 o1.1)), (3, .val (.int .i64 o1.2.1)), (4, .val (.bool o1.2.2))]) (L' := []) (by kernel_rfl) (by kernel_rfl) ?_
        cases h
        exact hQ
    · replace h := if_f hb h
      refine Wp.exit ?_
      refine To.thenX ?_
      refine To.thenX ?_
      refine To.keep (kk := []) (kl := []) (K' := []) (L' := []) (by kernel_rfl) (by kernel_rfl) ?_
      cases h
      exact hQ
def ref16_First (n : Nat) (a0 : List (S_api_Port)) : Option (Int × Int × Bool) :=
  (ref16_First_l1 n a0 n 0).bind fun o1 =>
  (Sum.elim (fun o1 => some (0, 0, false)) (fun o1 => some (o1.1, o1.2.1, o1.2.2))) o1
theorem ok_ref16_First (n : Nat) (a0 : List (S_api_Port)) (r : Int × Int × Bool) (h : ref16_First n a0 = some r) : CallsX Tryd.prog 26 [.recs (α := S_api_Port) (S_api_Port.mk [] 0 0 []) E_api_Port a0] (.tup [.val (.int .i64 r.1), .val (.int .i64 r.2.1), .val (.bool r.2.2)]) := by
  unfold ref16_First at h
  refine callsX_of (fn := Tryd.f26) (by kernel_rfl) rfl (by kernel_rfl) (Nat.le_of_ble_eq_true (by kernel_rfl)) fun F0 w0 _ => ?_
  refine Wp.keep (kk := [0]) (kl := []) (K' := [(0, .recs (α := S_api_Port) (S_api_Port.mk [] 0 0 []) E_api_Port a0)]) (L' := []) (by kernel_rfl) (by kernel_rfl) ?_
  refine Wp.seq ?_
  refine Wp.region hΓ [] [] [] [0] [] (K' := [(0, .recs (α := S_api_Port) (S_api_Port.mk [] 0 0 []) E_api_Port a0)]) (L' := []) (ob := []) (by kernel_rfl) AllP.nil ?_
  refine To.thenN ?_
  refine Wp.seq ?_
  refine Wp.seq ?_
  refine Wp.region hΓ [] [] [] [0, 5] [] (K' := [(0, .recs (α := S_api_Port) (S_api_Port.mk [] 0 0 []) E_api_Port a0), (5, .val (.int .i64 0))]) (L' := []) (ob := []) (by kernel_rfl) AllP.nil ?_
  refine To.thenN ?_
  refine Wp.block ?_
  obtain ⟨o1, ho1, h⟩ := bind_of h
  refine Wp.keep (kk := [0, 5]) (kl := []) (K' := [(0, .recs (α := S_api_Port) (S_api_Port.mk [] 0 0 []) E_api_Port a0), (5, .val (.int .i64 0))]) (L' := []) (by kernel_rfl) (by kernel_rfl) ?_
  refine Wp.loopL ?_
  refine ok_ref16_First_l1 n a0 n 0 o1 ho1 ?_
  rcases o1 with o1 | o1
  · replace h := sum_l h
    refine To.blockX ?_
    refine To.thenN ?_
    refine Wp.seq ?_
    refine Wp.region hΓ [] [] [] [2, 3, 4] [] (K' := [(2, .val (.int .i64 0)), (3, .val (.int .i64 0)), (4, .val (.bool false))]) (L' := []) (ob := []) (by kernel_rfl) AllP.nil ?_
    refine To.thenN ?_
    refine Wp.ret ?_
    refine To.keep (kk := [2, 3, 4]) (kl := []) (K' := [(2, .val (.int .i64 0)), (3, .val (.int .i64 0)), (4, .val (.bool false))]) (L' := []) (by kernel_rfl) (by kernel_rfl) ?_
    cases h
    exact To.done hΓ (by kernel_rfl)
  · replace h := sum_r h
    refine To.blockR ?_
    refine To.thenR ?_
    refine To.keep (kk := [2, 3, 4]) (kl := []) (K' := [(2, .val (.int .i64 o1.1)), (3, .val (.int .i64 o1.2.1)), (4, .val (.bool o1.2.2))]) (L' := []) (by kernel_rfl) (by kernel_rfl) ?_
    cases h
    exact To.done hΓ (by kernel_rfl)
theorem good_E_api_Port (l : List (S_api_Port)) : GoodR (.recs (S_api_Port.mk [] 0 0 []) E_api_Port l) := ⟨Nat.le_of_ble_eq_true (by kernel_rfl), fun _ => ⟨rfl, rfl⟩⟩
def slices_Clone_api_Port_api_Port_o (n : Nat) (a0 : List (S_api_Port)) : Option ((List (S_api_Port))) :=
  if (decide ((List.length ([] : List (S_api_Port)) + List.length a0) * (48 + 1) ≤ limit)) = true then (some (([] : List (S_api_Port)) ++ a0)) else none
theorem ok_slices_Clone_api_Port_api_Port_o (n : Nat) (a0 : List (S_api_Port)) (r : (List (S_api_Port))) (h : slices_Clone_api_Port_api_Port_o n a0 = some r) : CallsB Tryd.prog 49 [.recs (α := S_api_Port) (S_api_Port.mk [] 0 0 []) E_api_Port a0] [] (.row 1) [(1, 24, [.rowc false (α := S_api_Port) (S_api_Port.mk [] 0 0 []) E_api_Port r])] := by
  unfold slices_Clone_api_Port_api_Port_o at h
  refine callsB_of (fn := Tryd.f49) (by kernel_rfl) rfl (by kernel_rfl) (Nat.le_of_ble_eq_true (by kernel_rfl)) fun F0 w0 => ?_
  refine Wp.keep (kk := [0]) (kl := []) (K' := [(0, .recs (α := S_api_Port) (S_api_Port.mk [] 0 0 []) E_api_Port a0)]) (L' := []) (by kernel_rfl) (by kernel_rfl) ?_
  refine Wp.seq ?_
  refine Wp.region hΓ [] [] [] [0] [] (K' := [(0, .recs (α := S_api_Port) (S_api_Port.mk [] 0 0 []) E_api_Port a0)]) (L' := []) (ob := []) (by kernel_rfl) AllP.nil ?_
  refine To.thenN ?_
  refine Wp.seq ?_
  refine Wp.seq ?_
  refine Wp.nilR (e := 24) (neg := false) (t0 := 0) (t3 := 3) (t4 := 4) (α := S_api_Port) (d := (S_api_Port.mk [] 0 0 [])) (enc := E_api_Port) (l := a0) Tryd.underlying39 rfl rfl rfl rfl rfl rfl ⟨Nat.le_of_ble_eq_true (by kernel_rfl), Nat.le_of_ble_eq_true (by kernel_rfl), by decide⟩ (by kernel_rfl) (fun hl => ?_) ?_
  · subst hl
    have h : (some ([] : List (S_api_Port))) = some r := by simpa using h
    refine To.thenN ?_
    refine Wp.cond (b := true) (by kernel_rfl) (fun _ => ?_) (fun hb => by cases hb)
    refine Wp.seq ?_
    refine Wp.region hΓ [] [] [] [2] [] (K' := [(2, .val (.slice none 0 0))]) (L' := []) (ob := []) (by kernel_rfl) AllP.nil ?_
    refine To.thenN ?_
    refine Wp.ret ?_
    refine To.thenR ?_
    refine To.keep (kk := [2]) (kl := []) (K' := [(2, .val (.slice none 0 0))]) (L' := []) (by kernel_rfl) (by kernel_rfl) ?_
    refine To.pre (St.vacant (t := 2) (k := 1002) (e := 24) (K' := [(2, .row 1002)]) (good_E_api_Port _) (by decide) (by kernel_rfl) (by kernel_rfl)) ?_
    refine To.keep (kk := [2]) (kl := [1002]) (K' := [(2, .row 1002)]) (L' := [(1002, 24, [.rowc false (α := S_api_Port) (S_api_Port.mk [] 0 0 []) E_api_Port []])]) (by kernel_rfl) (by kernel_rfl) ?_
    refine To.pre (St.rename 1002 1 (by decide) (K' := [(2, .row 1)]) (L' := [(1, 24, [.rowc false (α := S_api_Port) (S_api_Port.mk [] 0 0 []) E_api_Port []])]) (by kernel_rfl) (by kernel_rfl) (by kernel_rfl)) ?_
    cases h
    exact To.doneB hΓ [1] (by kernel_rfl) (by kernel_rfl)
  · refine To.thenN ?_
    refine Wp.cond (b := false) (by kernel_rfl) (fun hb => by cases hb) (fun _ => ?_)
    refine Wp.skip ?_
    refine To.thenN ?_
    refine Wp.seq ?_
    obtain ⟨hc1, h⟩ := chk_of h
    refine Wp.region hΓ [] [(0, .recs (α := S_api_Port) (S_api_Port.mk [] 0 0 []) E_api_Port []), (2, .recs (α := S_api_Port) (S_api_Port.mk [] 0 0 []) E_api_Port (([] : List (S_api_Port)) ++ a0))] [] [2] [7] (K' := [(2, .row 7)]) (L' := [(7, 24, [.rowc false (α := S_api_Port) (S_api_Port.mk [] 0 0 []) E_api_Port (([] : List (S_api_Port)) ++ a0)])]) (ob := [(MkOb 4 [] 0 (.recs (α := S_api_Port) (S_api_Port.mk [] 0 0 []) E_api_Port []) ∧ GoodR (.recs (α := S_api_Port) (S_api_Port.mk [] 0 0 []) E_api_Port [])), (decide ((List.length ([] : List (S_api_Port)) + List.length a0) * (48 + 1) ≤ limit)) = true, (AppOb (S_api_Port.mk [] 0 0 []) E_api_Port ([] : List (S_api_Port)) (List.flatMap E_api_Port a0) (List.length a0) (.recs (α := S_api_Port) (S_api_Port.mk [] 0 0 []) E_api_Port (([] : List (S_api_Port)) ++ a0)) ∧ GoodR (.recs (α := S_api_Port) (S_api_Port.mk [] 0 0 []) E_api_Port (([] : List (S_api_Port)) ++ a0)))]) (by kernel_rfl) (AllP.cons (mkOb (by kernel_rfl) rfl (by kernel_rfl) (good_E_api_Port _)) (AllP.cons hc1 (AllP.cons (appOb rfl rfl (good_E_api_Port _)) AllP.nil))) ?_
    refine To.thenN ?_
    refine Wp.ret ?_
    refine To.keep (kk := [2]) (kl := [7]) (K' := [(2, .row 7)]) (L' := [(7, 24, [.rowc false (α := S_api_Port) (S_api_Port.mk [] 0 0 []) E_api_Port (([] : List (S_api_Port)) ++ a0)])]) (by kernel_rfl) (by kernel_rfl) ?_
    refine To.pre (St.rename 7 1002 (by decide) (K' := [(2, .row 1002)]) (L' := [(1002, 24, [.rowc false (α := S_api_Port) (S_api_Port.mk [] 0 0 []) E_api_Port (([] : List (S_api_Port)) ++ a0)])]) (by kernel_rfl) (by kernel_rfl) (by kernel_rfl)) ?_
    refine To.keep (kk := [2]) (kl := [1002]) (K' := [(2, .row 1002)]) (L' := [(1002, 24, [.rowc false (α := S_api_Port) (S_api_Port.mk [] 0 0 []) E_api_Port (([] : List (S_api_Port)) ++ a0)])]) (by kernel_rfl) (by kernel_rfl) ?_
    refine To.pre (St.rename 1002 1 (by decide) (K' := [(2, .row 1)]) (L' := [(1, 24, [.rowc false (α := S_api_Port) (S_api_Port.mk [] 0 0 []) E_api_Port (([] : List (S_api_Port)) ++ a0)])]) (by kernel_rfl) (by kernel_rfl) (by kernel_rfl)) ?_
    cases h
    exact To.doneB hΓ [1] (by kernel_rfl) (by kernel_rfl)
def port_Sorted (n : Nat) (a0 : List (S_api_Port)) : Option ((List (S_api_Port))) :=
  (slices_Clone_api_Port_api_Port_o n a0).bind fun r1 =>
  if (decide (List.length r1 * 5 ≤ limit)) = true then (if (decide (List.length (sortBy cf51 r1) * 5 ≤ limit)) = true then (some (compactL (sortBy cf51 r1))) else none) else none
theorem ok_port_Sorted (n : Nat) (a0 : List (S_api_Port)) (r : (List (S_api_Port))) (h : port_Sorted n a0 = some r) : CallsX Tryd.prog 27 [.recs (α := S_api_Port) (S_api_Port.mk [] 0 0 []) E_api_Port a0] (.recs (α := S_api_Port) (S_api_Port.mk [] 0 0 []) E_api_Port r) := by
  unfold port_Sorted at h
  refine callsX_of (fn := Tryd.f27) (by kernel_rfl) rfl (by kernel_rfl) (Nat.le_of_ble_eq_true (by kernel_rfl)) fun F0 w0 _ => ?_
  refine Wp.keep (kk := [0]) (kl := []) (K' := [(0, .recs (α := S_api_Port) (S_api_Port.mk [] 0 0 []) E_api_Port a0)]) (L' := []) (by kernel_rfl) (by kernel_rfl) ?_
  refine Wp.seq ?_
  refine Wp.region hΓ [] [] [] [0] [] (K' := [(0, .recs (α := S_api_Port) (S_api_Port.mk [] 0 0 []) E_api_Port a0)]) (L' := []) (ob := []) (by kernel_rfl) AllP.nil ?_
  refine To.thenN ?_
  refine Wp.seq ?_
  obtain ⟨r1, hr1, h⟩ := bind_of h
  refine Wp.region hΓ [] [] [(1, ⟨[], [(1, 5)], [.recs (α := S_api_Port) (S_api_Port.mk [] 0 0 []) E_api_Port a0], [], .row 1, [(1, 24, [.rowc false (α := S_api_Port) (S_api_Port.mk [] 0 0 []) E_api_Port r1])]⟩)] [3] [5] (K' := [(3, .row 5)]) (L' := [(5, 24, [.rowc false (α := S_api_Port) (S_api_Port.mk [] 0 0 []) E_api_Port r1])]) (ob := [CbOb (CallsB Tryd.prog) 49 [.recs (α := S_api_Port) (S_api_Port.mk [] 0 0 []) E_api_Port a0] [] ⟨[], [(1, 5)], [.recs (α := S_api_Port) (S_api_Port.mk [] 0 0 []) E_api_Port a0], [], .row 1, [(1, 24, [.rowc false (α := S_api_Port) (S_api_Port.mk [] 0 0 []) E_api_Port r1])]⟩]) (by kernel_rfl) (AllP.cons (⟨(ok_slices_Clone_api_Port_api_Port_o n a0 _ hr1), by kernel_rfl, by kernel_rfl⟩) AllP.nil) ?_
  refine To.thenN ?_
  refine Wp.seq ?_
  obtain ⟨u2, h⟩ := chk_of h
  refine Wp.region hΓ [] [] [(1, ⟨[(1000000, 5)], [(1000000, 5)], [.row 1000000, .fn 51 []], [(1000000, 24, [.rowc false (α := S_api_Port) (S_api_Port.mk [] 0 0 []) E_api_Port r1])], .tup [], [(1000000, 24, [.rowc false (α := S_api_Port) (S_api_Port.mk [] 0 0 []) E_api_Port (sortBy cf51 r1)])]⟩)] [3] [5] (K' := [(3, .row 5)]) (L' := [(5, 24, [.rowc false (α := S_api_Port) (S_api_Port.mk [] 0 0 []) E_api_Port (sortBy cf51 r1)])]) (ob := [CbOb (CallsB Tryd.prog) 50 [.row 5, .fn 51 []] [some (24, [.rowc false (α := S_api_Port) (S_api_Port.mk [] 0 0 []) E_api_Port r1])] ⟨[(1000000, 5)], [(1000000, 5)], [.row 1000000, .fn 51 []], [(1000000, 24, [.rowc false (α := S_api_Port) (S_api_Port.mk [] 0 0 []) E_api_Port r1])], .tup [], [(1000000, 24, [.rowc false (α := S_api_Port) (S_api_Port.mk [] 0 0 []) E_api_Port (sortBy cf51 r1)])]⟩]) (by kernel_rfl) (AllP.cons (⟨sortFunc50 u2, by kernel_rfl, by kernel_rfl⟩) AllP.nil) ?_
  refine To.thenN ?_
  refine Wp.seq ?_
  obtain ⟨u3, h⟩ := chk_of h
  refine Wp.region hΓ [] [] [(1, ⟨[(1000000, 5)], [], [.row 1000000], [(1000000, 24, [.rowc false (α := S_api_Port) (S_api_Port.mk [] 0 0 []) E_api_Port (sortBy cf51 r1)])], .recs (α := S_api_Port) (S_api_Port.mk [] 0 0 []) E_api_Port (compactL (sortBy cf51 r1)), []⟩)] [2] [] (K' := [(2, .recs (α := S_api_Port) (S_api_Port.mk [] 0 0 []) E_api_Port (compactL (sortBy cf51 r1)))]) (L' := []) (ob := [CbOb (CallsB Tryd.prog) 52 [.row 5] [some (24, [.rowc false (α := S_api_Port) (S_api_Port.mk [] 0 0 []) E_api_Port (sortBy cf51 r1)])] ⟨[(1000000, 5)], [], [.row 1000000], [(1000000, 24, [.rowc false (α := S_api_Port) (S_api_Port.mk [] 0 0 []) E_api_Port (sortBy cf51 r1)])], .recs (α := S_api_Port) (S_api_Port.mk [] 0 0 []) E_api_Port (compactL (sortBy cf51 r1)), []⟩]) (by kernel_rfl) (AllP.cons (⟨compactK52 u3, by kernel_rfl, by kernel_rfl⟩) AllP.nil) ?_
  refine To.thenN ?_
  refine Wp.ret ?_
  refine To.keep (kk := [2]) (kl := []) (K' := [(2, .recs (α := S_api_Port) (S_api_Port.mk [] 0 0 []) E_api_Port (compactL (sortBy cf51 r1)))]) (L' := []) (by kernel_rfl) (by kernel_rfl) ?_
  cases h
  exact To.done hΓ (by kernel_rfl)
def ref16_less (a0 : S_api_Port) (a1 : S_api_Port) : Bool :=
  if (a0.f_In != a1.f_In) = true then ((decide (a0.f_In < a1.f_In)))
  else (if (!(a0.f_Proto == a1.f_Proto)) = true then ((Op.bytesLess a0.f_Proto a1.f_Proto))
  else (if (!(a0.f_Host == a1.f_Host)) = true then ((Op.bytesLess a0.f_Host a1.f_Host))
  else ((decide (a0.f_Out < a1.f_Out)))))
theorem ok_ref16_less (a0 : S_api_Port) (a1 : S_api_Port) (r : Bool) (h : ref16_less a0 a1 = r) : CallsX Tryd.prog 53 [.agg [.str a0.f_Host, .val (.int .i64 a0.f_Out), .val (.int .i64 a0.f_In), .str a0.f_Proto], .agg [.str a1.f_Host, .val (.int .i64 a1.f_Out), .val (.int .i64 a1.f_In), .str a1.f_Proto]] (.val (.bool r)) := by
  unfold ref16_less at h
  refine callsX_of (fn := Tryd.f53) (by kernel_rfl) rfl (by kernel_rfl) (Nat.le_of_ble_eq_true (by kernel_rfl)) fun F0 w0 _ => ?_
  refine Wp.keep (kk := [0, 1]) (kl := []) (K' := [(0, .agg [.str a0.f_Host, .val (.int .i64 a0.f_Out), .val (.int .i64 a0.f_In), .str a0.f_Proto]), (1, .agg [.str a1.f_Host, .val (.int .i64 a1.f_Out), .val (.int .i64 a1.f_In), .str a1.f_Proto])]) (L' := []) (by kernel_rfl) (by kernel_rfl) ?_
  refine Wp.seq ?_
  refine Wp.region hΓ [] [] [] [2, 3] [2, 3] (K' := [(2, .own 2 0), (3, .own 3 0)]) (L' := [(2, 24, [.str a0.f_Host, .val (.int .i64 a0.f_Out), .val (.int .i64 a0.f_In), .str a0.f_Proto]), (3, 24, [.str a1.f_Host, .val (.int .i64 a1.f_Out), .val (.int .i64 a1.f_In), .str a1.f_Proto])]) (ob := []) (by kernel_rfl) AllP.nil ?_
  refine To.thenN ?_
  refine Wp.seq ?_
  refine Wp.seq ?_
  refine Wp.region hΓ [] [] [] [2, 3, 9] [2, 3] (K' := [(2, .own 2 0), (3, .own 3 0), (9, .val (.bool (a0.f_In != a1.f_In)))]) (L' := [(2, 24, [.str a0.f_Host, .val (.int .i64 a0.f_Out), .val (.int .i64 a0.f_In), .str a0.f_Proto]), (3, 24, [.str a1.f_Host, .val (.int .i64 a1.f_Out), .val (.int .i64 a1.f_In), .str a1.f_Proto])]) (ob := []) (by kernel_rfl) AllP.nil ?_
  refine To.thenN ?_
  refine Wp.cond (b := (a0.f_In != a1.f_In)) (by kernel_rfl) (fun hb => ?_) (fun hb => ?_)
  · replace h := if_t hb h
    refine Wp.seq ?_
    refine Wp.region hΓ [] [] [] [4] [] (K' := [(4, .val (.bool (decide (a0.f_In < a1.f_In))))]) (L' := []) (ob := []) (by kernel_rfl) AllP.nil ?_
    refine To.thenN ?_
    refine Wp.ret ?_
    refine To.thenR ?_
    refine To.keep (kk := [4]) (kl := []) (K' := [(4, .val (.bool (decide (a0.f_In < a1.f_In))))]) (L' := []) (by kernel_rfl) (by kernel_rfl) ?_
    cases h
    exact To.done hΓ (by kernel_rfl)
  · replace h := if_f hb h
    refine Wp.skip ?_
    refine To.thenN ?_
    refine Wp.seq ?_
    refine Wp.seq ?_
    refine Wp.region hΓ [] [] [] [2, 3, 19] [2, 3] (K' := [(2, .own 2 0), (3, .own 3 0), (19, .val (.bool (!(a0.f_Proto == a1.f_Proto))))]) (L' := [(2, 24, [.str a0.f_Host, .val (.int .i64 a0.f_Out), .val (.int .i64 a0.f_In), .str a0.f_Proto]), (3, 24, [.str a1.f_Host, .val (.int .i64 a1.f_Out), .val (.int .i64 a1.f_In), .str a1.f_Proto])]) (ob := []) (by kernel_rfl) AllP.nil ?_
    refine To.thenN ?_
    refine Wp.cond (b := (!(a0.f_Proto == a1.f_Proto))) (by kernel_rfl) (fun hb => ?_) (fun hb => ?_)
    · replace h := if_t hb h
      refine Wp.seq ?_
      refine Wp.region hΓ [] [] [] [4] [] (K' := [(4, .val (.bool (Op.bytesLess a0.f_Proto a1.f_Proto)))]) (L' := []) (ob := []) (by kernel_rfl) AllP.nil ?_
      refine To.thenN ?_
      refine Wp.ret ?_
      refine To.thenR ?_
      refine To.keep (kk := [4]) (kl := []) (K' := [(4, .val (.bool (Op.bytesLess a0.f_Proto a1.f_Proto)))]) (L' := []) (by kernel_rfl) (by kernel_rfl) ?_
      cases h
      exact To.done hΓ (by kernel_rfl)
    · replace h := if_f hb h
      refine Wp.skip ?_
      refine To.thenN ?_
      refine Wp.seq ?_
      refine Wp.seq ?_
      refine Wp.region hΓ [] [] [] [2, 3, 29] [2, 3] (K' := [(2, .own 2 0), (3, .own 3 0), (29, .val (.bool (!(a0.f_Host == a1.f_Host))))]) (L' := [(2, 24, [.str a0.f_Host, .val (.int .i64 a0.f_Out), .val (.int .i64 a0.f_In), .str a0.f_Proto]), (3, 24, [.str a1.f_Host, .val (.int .i64 a1.f_Out), .val (.int .i64 a1.f_In), .str a1.f_Proto])]) (ob := []) (by kernel_rfl) AllP.nil ?_
      refine To.thenN ?_
      refine Wp.cond (b := (!(a0.f_Host == a1.f_Host))) (by kernel_rfl) (fun hb => ?_) (fun hb => ?_)
      · replace h := if_t hb h
        refine Wp.seq ?_
        refine Wp.region hΓ [] [] [] [4] [] (K' := [(4, .val (.bool (Op.bytesLess a0.f_Host a1.f_Host)))]) (L' := []) (ob := []) (by kernel_rfl) AllP.nil ?_
        refine To.thenN ?_
        refine Wp.ret ?_
        refine To.thenR ?_
        refine To.keep (kk := [4]) (kl := []) (K' := [(4, .val (.bool (Op.bytesLess a0.f_Host a1.f_Host)))]) (L' := []) (by kernel_rfl) (by kernel_rfl) ?_
        cases h
        exact To.done hΓ (by kernel_rfl)
      · replace h := if_f hb h
        refine Wp.skip ?_
        refine To.thenN ?_
        refine Wp.seq ?_
        refine Wp.region hΓ [] [] [] [4] [] (K' := [(4, .val (.bool (decide (a0.f_Out < a1.f_Out))))]) (L' := []) (ob := []) (by kernel_rfl) AllP.nil ?_
        refine To.thenN ?_
        refine Wp.ret ?_
        refine To.keep (kk := [4]) (kl := []) (K' := [(4, .val (.bool (decide (a0.f_Out < a1.f_Out))))]) (L' := []) (by kernel_rfl) (by kernel_rfl) ?_
        cases h
        exact To.done hΓ (by kernel_rfl)
def ref16_Sorted_j3 (n : Nat) (v0 : List (S_api_Port)) (v3 : List (S_api_Port)) (v4 : Int) (v5 : Int) : Option (Int) :=
  if ((!(((List.length v3 : Int) == 0) == false) || decide (0 ≤ (IntKind.wrap .i64 ((List.length v3 : Int) - 1)) ∧ (IntKind.wrap .i64 ((List.length v3 : Int) - 1)) < (List.length v3 : Int)))) = true then (if ((!(((List.length v3 : Int) == 0) == false) || decide (0 ≤ v5 ∧ v5 < (List.length v0 : Int)))) = true then (lett (ref16_less ((v3)[Int.toNat (IntKind.wrap .i64 ((List.length v3 : Int) - 1))]?.getD (S_api_Port.mk [] 0 0 [])) ((v0)[Int.toNat v5]?.getD (S_api_Port.mk [] 0 0 []))) fun r1 =>
  if ((!(((decide (v4 < 0)) == false) && ((bif ((List.length v3 : Int) == 0) then true else r1) == true)) || decide (0 ≤ v5 ∧ v5 < (List.length v0 : Int)))) = true then (if ((!(((decide (v4 < 0)) == false) && ((bif ((List.length v3 : Int) == 0) then true else r1) == true)) || decide (0 ≤ v4 ∧ v4 < (List.length v0 : Int)))) = true then (lett (ref16_less ((v0)[Int.toNat v5]?.getD (S_api_Port.mk [] 0 0 [])) ((v0)[Int.toNat v4]?.getD (S_api_Port.mk [] 0 0 []))) fun r2 =>
  if (bif (bif ((List.length v3 : Int) == 0) then true else r1) then (bif (decide (v4 < 0)) then true else r2) else false) = true then some v5
  else some v4) else none) else none) else none) else none
theorem ok_ref16_Sorted_j3 (n : Nat) (v0 : List (S_api_Port)) (v3 : List (S_api_Port)) (v4 : Int) (v5 : Int) (o : Int) (h : ref16_Sorted_j3 n v0 v3 v4 v5 = some o) {F0 : Fz} {w0 : Pt Tryd.prog} {Q : Exit → Act → World → Prop} (hQ : To 55 F0 w0 [(0, .recs (α := S_api_Port) (S_api_Port.mk [] 0 0 []) E_api_Port v0), (3, .row 1003), (4, .val (.int .i64 o)), (5, .val (.int .i64 v5))] [(1003, 24, [.rowc false (α := S_api_Port) (S_api_Port.mk [] 0 0 []) E_api_Port v3])] .normal Q) : Wp Tryd.prog 55 F0 w0 [(0, .recs (α := S_api_Port) (S_api_Port.mk [] 0 0 []) E_api_Port v0), (3, .row 1003), (4, .val (.int .i64 v4)), (5, .val (.int .i64 v5))] [(1003, 24, [.rowc false (α := S_api_Port) (S_api_Port.mk [] 0 0 []) E_api_Port v3])] (cA (cB (cI (cI (cB (cA (cB (cI (cI (cI (cB (cB (cF Tryd.f29))))))))))))) Q := by
  unfold ref16_Sorted_j3 at h
  refine Wp.block ?_
  refine Wp.seq ?_
  obtain ⟨hc3, h⟩ := chk_of h
  obtain ⟨hc4, h⟩ := chk_of h
  obtain ⟨r1, hr1, h⟩ := lett_of h
  obtain ⟨hc5, h⟩ := chk_of h
  obtain ⟨hc6, h⟩ := chk_of h
  obtain ⟨r2, hr2, h⟩ := lett_of h
  refine Wp.regionD hm hΓ [(14, .val (.bool r1)), (28, .val (.bool r2))] [0, 3, 4, 5, 43] [1003] (K' := [(0, .recs (α := S_api_Port) (S_api_Port.mk [] 0 0 []) E_api_Port v0), (3, .row 1003), (4, .val (.int .i64 v4)), (5, .val (.int .i64 v5)), (43, .val (.bool (bif (bif ((List.length v3 : Int) == 0) then true else r1) then (bif (decide (v4 < 0)) then true else r2) else false)))]) (L' := [(1003, 24, [.rowc false (α := S_api_Port) (S_api_Port.mk [] 0 0 []) E_api_Port v3])]) (ob := [(!(((List.length v3 : Int) == 0) == false) || decide (0 ≤ (IntKind.wrap .i64 ((List.length v3 : Int) - 1)) ∧ (IntKind.wrap .i64 ((List.length v3 : Int) - 1)) < (List.length v3 : Int))) = true, (!(((List.length v3 : Int) == 0) == false) || decide (0 ≤ (IntKind.wrap .i64 ((List.length v3 : Int) - 1)) ∧ (IntKind.wrap .i64 ((List.length v3 : Int) - 1)) < (List.length v3 : Int))) = true, (!(((List.length v3 : Int) == 0) == false) || decide (0 ≤ v5 ∧ v5 < (List.length v0 : Int))) = true, ((((List.length v3 : Int) == 0) == false) = true → CX Tryd.prog 53 [.agg [.str (((v3)[Int.toNat (IntKind.wrap .i64 ((List.length v3 : Int) - 1))]?.getD (S_api_Port.mk [] 0 0 [])).f_Host), .val (.int .i64 (((v3)[Int.toNat (IntKind.wrap .i64 ((List.length v3 : Int) - 1))]?.getD (S_api_Port.mk [] 0 0 [])).f_Out)), .val (.int .i64 (((v3)[Int.toNat (IntKind.wrap .i64 ((List.length v3 : Int) - 1))]?.getD (S_api_Port.mk [] 0 0 [])).f_In)), .str (((v3)[Int.toNat (IntKind.wrap .i64 ((List.length v3 : Int) - 1))]?.getD (S_api_Port.mk [] 0 0 [])).f_Proto)], .agg [.str (((v0)[Int.toNat v5]?.getD (S_api_Port.mk [] 0 0 [])).f_Host), .val (.int .i64 (((v0)[Int.toNat v5]?.getD (S_api_Port.mk [] 0 0 [])).f_Out)), .val (.int .i64 (((v0)[Int.toNat v5]?.getD (S_api_Port.mk [] 0 0 [])).f_In)), .str (((v0)[Int.toNat v5]?.getD (S_api_Port.mk [] 0 0 [])).f_Proto)]] (.val (.bool r1))), (!(((decide (v4 < 0)) == false) && ((bif ((List.length v3 : Int) == 0) then true else r1) == true)) || decide (0 ≤ v5 ∧ v5 < (List.length v0 : Int))) = true, (!(((decide (v4 < 0)) == false) && ((bif ((List.length v3 : Int) == 0) then true else r1) == true)) || decide (0 ≤ v4 ∧ v4 < (List.length v0 : Int))) = true, ((((decide (v4 < 0)) == false) && ((bif ((List.length v3 : Int) == 0) then true else r1) == true)) = true → CX Tryd.prog 53 [.agg [.str (((v0)[Int.toNat v5]?.getD (S_api_Port.mk [] 0 0 [])).f_Host), .val (.int .i64 (((v0)[Int.toNat v5]?.getD (S_api_Port.mk [] 0 0 [])).f_Out)), .val (.int .i64 (((v0)[Int.toNat v5]?.getD (S_api_Port.mk [] 0 0 [])).f_In)), .str (((v0)[Int.toNat v5]?.getD (S_api_Port.mk [] 0 0 [])).f_Proto)], .agg [.str (((v0)[Int.toNat v4]?.getD (S_api_Port.mk [] 0 0 [])).f_Host), .val (.int .i64 (((v0)[Int.toNat v4]?.getD (S_api_Port.mk [] 0 0 [])).f_Out)), .val (.int .i64 (((v0)[Int.toNat v4]?.getD (S_api_Port.mk [] 0 0 [])).f_In)), .str (((v0)[Int.toNat v4]?.getD (S_api_Port.mk [] 0 0 [])).f_Proto)]] (.val (.bool r2)))]) (by kernel_rfl) (AllP.cons hc3 (AllP.cons hc3 (AllP.cons hc4 (AllP.cons (fun _ => cx (ok_ref16_less ((v3)[Int.toNat (IntKind.wrap .i64 ((List.length v3 : Int) - 1))]?.getD (S_api_Port.mk [] 0 0 [])) ((v0)[Int.toNat v5]?.getD (S_api_Port.mk [] 0 0 [])) _ hr1)) (AllP.cons hc5 (AllP.cons hc6 (AllP.cons (fun _ => cx (ok_ref16_less ((v0)[Int.toNat v5]?.getD (S_api_Port.mk [] 0 0 [])) ((v0)[Int.toNat v4]?.getD (S_api_Port.mk [] 0 0 [])) _ hr2)) AllP.nil))))))) ?_
  refine To.thenN ?_
  refine Wp.cond (b := (bif (bif ((List.length v3 : Int) == 0) then true else r1) then (bif (decide (v4 < 0)) then true else r2) else false)) (by kernel_rfl) (fun hb => ?_) (fun hb => ?_)
  · replace h := if_t hb h
    refine Wp.region hΓ [] [] [] [0, 3, 4, 5] [1003] (K' := [(0, .recs (α := S_api_Port) (S_api_Port.mk [] 0 0 []) E_api_Port v0), (3, .row 1003), (4, .val (.int .i64 v5)), (5, .val (.int .i64 v5))]) (L' := [(1003, 24, [.rowc false (α := S_api_Port) (S_api_Port.mk [] 0 0 []) E_api_Port v3])]) (ob := []) (by kernel_rfl) AllP.nil ?_
    refine To.blockN ?_
    refine To.keep (kk := [0, 3, 4, 5]) (kl := [1003]) (K' := [(0, .recs (α := S_api_Port) (S_api_Port.mk [] 0 0 []) E_api_Port v0), (3, .row 1003), (4, .val (.int .i64 v5)), (5, .val (.int .i64 v5))]) (L' := [(1003, 24, [.rowc false (α := S_api_Port) (S_api_Port.mk [] 0 0 []) E_api_Port v3])]) (by kernel_rfl) (by kernel_rfl) ?_
    cases h
    exact hQ
  · replace h := if_f hb h
    refine Wp.skip ?_
    refine To.blockN ?_
    refine To.keep (kk := [0, 3, 4, 5]) (kl := [1003]) (K' := [(0, .recs (α := S_api_Port) (S_api_Port.mk [] 0 0 []) E_api_Port v0), (3, .row 1003), (4, .val (.int .i64 v4)), (5, .val (.int .i64 v5))]) (L' := [(1003, 24, [.rowc false (α := S_api_Port) (S_api_Port.mk [] 0 0 []) E_api_Port v3])]) (by kernel_rfl) (by kernel_rfl) ?_
    cases h
    exact hQ
def ref16_Sorted_l2 (n : Nat) (v0 : List (S_api_Port)) (v3 : List (S_api_Port)) : Nat → Int → Int → Option (Int)
  | 0, _, _ => none
  | k + 1, v4, v5 => if (decide (v5 < (List.length v0 : Int))) = true then ((ref16_Sorted_j3 n v0 v3 v4 v5).bind fun o1 =>
  ref16_Sorted_l2 n v0 v3 k o1 (IntKind.wrap .i64 (v5 + 1)))
  else some v4
theorem ok_ref16_Sorted_l2 (n : Nat) (v0 : List (S_api_Port)) (v3 : List (S_api_Port)) {F0 : Fz} {w0 : Pt Tryd.prog} {Q : Exit → Act → World → Prop} (k : Nat) : ∀ (v4 : Int) (v5 : Int) (o : Int), ref16_Sorted_l2 n v0 v3 k v4 v5 = some o → To 55 F0 w0 [(0, .recs (α := S_api_Port) (S_api_Port.mk [] 0 0 []) E_api_Port v0), (3, .row 1003), (4, .val (.int .i64 o))] [(1003, 24, [.rowc false (α := S_api_Port) (S_api_Port.mk [] 0 0 []) E_api_Port v3])] (.exit 2) Q → WL Tryd.prog 55 F0 w0 [(0, .recs (α := S_api_Port) (S_api_Port.mk [] 0 0 []) E_api_Port v0), (3, .row 1003), (4, .val (.int .i64 v4)), (5, .val (.int .i64 v5))] [(1003, 24, [.rowc false (α := S_api_Port) (S_api_Port.mk [] 0 0 []) E_api_Port v3])] (cI (cI (cB (cA (cB (cI (cI (cI (cB (cB (cF Tryd.f29))))))))))) Q := by
  induction k with
  | zero => intro v4 v5 o h; cases h
  | succ k ih =>
    intro v4 v5 o h hQ
    rw [ref16_Sorted_l2] at h
    refine WL.round ?_
    refine Wp.seq ?_
    refine Wp.seq ?_
    refine Wp.region hΓ [] [] [] [0, 3, 4, 5, 10] [1003] (K' := [(0, .recs (α := S_api_Port) (S_api_Port.mk [] 0 0 []) E_api_Port v0), (3, .row 1003), (4, .val (.int .i64 v4)), (5, .val (.int .i64 v5)), (10, .val (.bool (decide (v5 < (List.length v0 : Int)))))]) (L' := [(1003, 24, [.rowc false (α := S_api_Port) (S_api_Port.mk [] 0 0 []) E_api_Port v3])]) (ob := []) (by kernel_rfl) AllP.nil ?_
    refine To.thenN ?_
    refine Wp.cond (b := (decide (v5 < (List.length v0 : Int)))) (by kernel_rfl) (fun hb => ?_) (fun hb => ?_)
    · replace h := if_t hb h
      refine Wp.skip ?_
      refine To.thenN ?_
      refine Wp.seq ?_
      obtain ⟨o1, ho1, h⟩ := bind_of h
      refine Wp.keep (kk := [0, 3, 4, 5]) (kl := [1003]) (K' := [(0, .recs (α := S_api_Port) (S_api_Port.mk [] 0 0 []) E_api_Port v0), (3, .row 1003), (4, .val (.int .i64 v4)), (5, .val (.int .i64 v5))]) (L' := [(1003, 24, [.rowc false (α := S_api_Port) (S_api_Port.mk [] 0 0 []) E_api_Port v3])]) (by kernel_rfl) (by kernel_rfl) ?_
      refine ok_ref16_Sorted_j3 n v0 v3 v4 v5 o1 ho1 ?_
      refine To.thenN ?_
      refine Wp.region hΓ [] [] [] [0, 3, 4, 5] [1003] (K' := [(0, .recs (α := S_api_Port) (S_api_Port.mk [] 0 0 []) E_api_Port v0), (3, .row 1003), (4, .val (.int .i64 o1)), (5, .val (.int .i64 (IntKind.wrap .i64 (v5 + 1))))]) (L' := [(1003, 24, [.rowc false (α := S_api_Port) (S_api_Port.mk [] 0 0 []) E_api_Port v3])]) (ob := []) (by kernel_rfl) AllP.nil ?_
      refine To.keep (kk := [0, 3, 4, 5]) (kl := [1003]) (K' := [(0, .recs (α := S_api_Port) (S_api_Port.mk [] 0 0 []) E_api_Port v0), (3, .row 1003), (4, .val (.int .i64 o1)), (5, .val (.int .i64 (IntKind.wrap .i64 (v5 + 1))))]) (L' := [(1003, 24, [.rowc false (α := S_api_Port) (S_api_Port.mk [] 0 0 []) E_api_Port v3])]) (by kernel_rfl) (by kernel_rfl) ?_
      refine To.again ?_
      exact ih o1 (IntKind.wrap .i64 (v5 + 1)) _ h hQ
    · replace h := if_f hb h
      refine Wp.exit ?_
      refine To.thenX ?_
      refine To.thenX ?_
      refine To.keep (kk := [0, 3, 4]) (kl := [1003]) (K' := [(0, .recs (α := S_api_Port) (S_api_Port.mk [] 0 0 []) E_api_Port v0), (3, .row 1003), (4, .val (.int .i64 v4))]) (L' := [(1003, 24, [.rowc false (α := S_api_Port) (S_api_Port.mk [] 0 0 []) E_api_Port v3])]) (by kernel_rfl) (by kernel_rfl) ?_
      cases h
      exact hQ
def ref16_Sorted_l1 (n : Nat) (v0 : List (S_api_Port)) : Nat → (List (S_api_Port)) → Option ((List (S_api_Port)))
  | 0, _ => none
  | k + 1, v3 => (ref16_Sorted_l2 n v0 v3 n (-1) 0).bind fun o1 =>
  if (decide (o1 < 0)) = true then some v3
  else (if (decide (0 ≤ o1 ∧ o1 < (List.length v0 : Int))) = true then (if (decide ((List.length v3 + List.length ([((v0)[Int.toNat o1]?.getD (S_api_Port.mk [] 0 0 []))] : List (S_api_Port))) * (48 + 1) ≤ limit)) = true then (ref16_Sorted_l1 n v0 k (v3 ++ ([((v0)[Int.toNat o1]?.getD (S_api_Port.mk [] 0 0 []))] : List (S_api_Port)))) else none) else none)
theorem ok_ref16_Sorted_l1 (n : Nat) (v0 : List (S_api_Port)) {F0 : Fz} {w0 : Pt Tryd.prog} {Q : Exit → Act → World → Prop} (k : Nat) : ∀ (v3 : List (S_api_Port)) (o : (List (S_api_Port))), ref16_Sorted_l1 n v0 k v3 = some o → To 55 F0 w0 [(2, .row 1002)] [(1002, 24, [.rowc false (α := S_api_Port) (S_api_Port.mk [] 0 0 []) E_api_Port o])] .ret Q → WL Tryd.prog 55 F0 w0 [(0, .recs (α := S_api_Port) (S_api_Port.mk [] 0 0 []) E_api_Port v0), (3, .row 1003)] [(1003, 24, [.rowc false (α := S_api_Port) (S_api_Port.mk [] 0 0 []) E_api_Port v3])] (cI (cI (cB (cB (cF Tryd.f29))))) Q := by
  induction k with
  | zero => intro v3 o h; cases h
  | succ k ih =>
    intro v3 o h hQ
    rw [ref16_Sorted_l1] at h
    refine WL.round ?_
    refine Wp.block ?_
    refine Wp.seq ?_
    refine Wp.region hΓ [] [] [] [0, 3, 4] [1003] (K' := [(0, .recs (α := S_api_Port) (S_api_Port.mk [] 0 0 []) E_api_Port v0), (3, .row 1003), (4, .val (.int .i64 (-1)))]) (L' := [(1003, 24, [.rowc false (α := S_api_Port) (S_api_Port.mk [] 0 0 []) E_api_Port v3])]) (ob := []) (by kernel_rfl) AllP.nil ?_
    refine To.thenN ?_
    refine Wp.seq ?_
    refine Wp.seq ?_
    refine Wp.region hΓ [] [] [] [0, 3, 4, 5] [1003] (K' := [(0, .recs (α := S_api_Port) (S_api_Port.mk [] 0 0 []) E_api_Port v0), (3, .row 1003), (4, .val (.int .i64 (-1))), (5, .val (.int .i64 0))]) (L' := [(1003, 24, [.rowc false (α := S_api_Port) (S_api_Port.mk [] 0 0 []) E_api_Port v3])]) (ob := []) (by kernel_rfl) AllP.nil ?_
    refine To.thenN ?_
    refine Wp.block ?_
    obtain ⟨o1, ho1, h⟩ := bind_of h
    refine Wp.keep (kk := [0, 3, 4, 5]) (kl := [1003]) (K' := [(0, .recs (α := S_api_Port) (S_api_Port.mk [] 0 0 []) E_api_Port v0), (3, .row 1003), (4, .val (.int .i64 (-1))), (5, .val (.int .i64 0))]) (L' := [(1003, 24, [.rowc false (α := S_api_Port) (S_api_Port.mk [] 0 0 []) E_api_Port v3])]) (by kernel_rfl) (by kernel_rfl) ?_
    refine Wp.loopL ?_
    refine ok_ref16_Sorted_l2 n v0 v3 n (-1) 0 o1 ho1 ?_
    refine To.blockX ?_
    refine To.thenN ?_
    refine Wp.seq ?_
    refine Wp.seq ?_
    refine Wp.region hΓ [] [] [] [0, 3, 4, 46] [1003] (K' := [(0, .recs (α := S_api_Port) (S_api_Port.mk [] 0 0 []) E_api_Port v0), (3, .row 1003), (4, .val (.int .i64 o1)), (46, .val (.bool (decide (o1 < 0))))]) (L' := [(1003, 24, [.rowc false (α := S_api_Port) (S_api_Port.mk [] 0 0 []) E_api_Port v3])]) (ob := []) (by kernel_rfl) AllP.nil ?_
    refine To.thenN ?_
    refine Wp.cond (b := (decide (o1 < 0))) (by kernel_rfl) (fun hb => ?_) (fun hb => ?_)
    · replace h := if_t hb h
      refine Wp.seq ?_
      refine Wp.region hΓ [] [] [] [2] [1003] (K' := [(2, .row 1003)]) (L' := [(1003, 24, [.rowc false (α := S_api_Port) (S_api_Port.mk [] 0 0 []) E_api_Port v3])]) (ob := []) (by kernel_rfl) AllP.nil ?_
      refine To.thenN ?_
      refine Wp.ret ?_
      refine To.thenR ?_
      refine To.blockR ?_
      refine To.thenR ?_
      refine To.keep (kk := [2]) (kl := [1003]) (K' := [(2, .row 1003)]) (L' := [(1003, 24, [.rowc false (α := S_api_Port) (S_api_Port.mk [] 0 0 []) E_api_Port v3])]) (by kernel_rfl) (by kernel_rfl) ?_
      refine To.pre (St.rename 1003 1002 (by decide) (K' := [(2, .row 1002)]) (L' := [(1002, 24, [.rowc false (α := S_api_Port) (S_api_Port.mk [] 0 0 []) E_api_Port v3])]) (by kernel_rfl) (by kernel_rfl) (by kernel_rfl)) ?_
      refine To.keep (kk := [2]) (kl := [1002]) (K' := [(2, .row 1002)]) (L' := [(1002, 24, [.rowc false (α := S_api_Port) (S_api_Port.mk [] 0 0 []) E_api_Port v3])]) (by kernel_rfl) (by kernel_rfl) ?_
      cases h
      exact hQ
    · replace h := if_f hb h
      refine Wp.skip ?_
      refine To.thenN ?_
      obtain ⟨hc2, h⟩ := chk_of h
      obtain ⟨hc3, h⟩ := chk_of h
      refine Wp.region hΓ [] [(5, .recs (α := S_api_Port) (S_api_Port.mk [] 0 0 []) E_api_Port ([((v0)[Int.toNat o1]?.getD (S_api_Port.mk [] 0 0 []))])), (6, .recs (α := S_api_Port) (S_api_Port.mk [] 0 0 []) E_api_Port (v3 ++ ([((v0)[Int.toNat o1]?.getD (S_api_Port.mk [] 0 0 []))] : List (S_api_Port))))] [] [0, 3] [54] (K' := [(0, .recs (α := S_api_Port) (S_api_Port.mk [] 0 0 []) E_api_Port v0), (3, .row 54)]) (L' := [(54, 24, [.rowc false (α := S_api_Port) (S_api_Port.mk [] 0 0 []) E_api_Port (v3 ++ ([((v0)[Int.toNat o1]?.getD (S_api_Port.mk [] 0 0 []))] : List (S_api_Port)))])]) (ob := [(decide (0 ≤ o1 ∧ o1 < (List.length v0 : Int))) = true, (MkOb 4 [.str (((v0)[Int.toNat o1]?.getD (S_api_Port.mk [] 0 0 [])).f_Host), .val (.int .i64 (((v0)[Int.toNat o1]?.getD (S_api_Port.mk [] 0 0 [])).f_Out)), .val (.int .i64 (((v0)[Int.toNat o1]?.getD (S_api_Port.mk [] 0 0 [])).f_In)), .str (((v0)[Int.toNat o1]?.getD (S_api_Port.mk [] 0 0 [])).f_Proto)] 1 (.recs (α := S_api_Port) (S_api_Port.mk [] 0 0 []) E_api_Port ([((v0)[Int.toNat o1]?.getD (S_api_Port.mk [] 0 0 []))])) ∧ GoodR (.recs (α := S_api_Port) (S_api_Port.mk [] 0 0 []) E_api_Port ([((v0)[Int.toNat o1]?.getD (S_api_Port.mk [] 0 0 []))]))), (decide ((List.length v3 + List.length ([((v0)[Int.toNat o1]?.getD (S_api_Port.mk [] 0 0 []))] : List (S_api_Port))) * (48 + 1) ≤ limit)) = true, (AppOb (S_api_Port.mk [] 0 0 []) E_api_Port v3 (List.flatMap E_api_Port ([((v0)[Int.toNat o1]?.getD (S_api_Port.mk [] 0 0 []))] : List (S_api_Port))) (List.length ([((v0)[Int.toNat o1]?.getD (S_api_Port.mk [] 0 0 []))] : List (S_api_Port))) (.recs (α := S_api_Port) (S_api_Port.mk [] 0 0 []) E_api_Port (v3 ++ ([((v0)[Int.toNat o1]?.getD (S_api_Port.mk [] 0 0 []))] : List (S_api_Port)))) ∧ GoodR (.recs (α := S_api_Port) (S_api_Port.mk [] 0 0 []) E_api_Port (v3 ++ ([((v0)[Int.toNat o1]?.getD (S_api_Port.mk [] 0 0 []))] : List (S_api_Port)))))]) (by kernel_rfl) (AllP.cons hc2 (AllP.cons (mkOb (by kernel_rfl) rfl (by kernel_rfl) (good_E_api_Port _)) (AllP.cons hc3 (AllP.cons (appOb rfl rfl (good_E_api_Port _)) AllP.nil)))) ?_
      refine To.blockN ?_
      refine To.keep (kk := [0, 3]) (kl := [54]) (K' := [(0, .recs (α := S_api_Port) (S_api_Port.mk [] 0 0 []) E_api_Port v0), (3, .row 54)]) (L' := [(54, 24, [.rowc false (α := S_api_Port) (S_api_Port.mk [] 0 0 []) E_api_Port (v3 ++ ([((v0)[Int.toNat o1]?.getD (S_api_Port.mk [] 0 0 []))] : List (S_api_Port)))])]) (by kernel_rfl) (by kernel_rfl) ?_
      refine To.pre (St.rename 54 1003 (by decide) (K' := [(0, .recs (α := S_api_Port) (S_api_Port.mk [] 0 0 []) E_api_Port v0), (3, .row 1003)]) (L' := [(1003, 24, [.rowc false (α := S_api_Port) (S_api_Port.mk [] 0 0 []) E_api_Port (v3 ++ ([((v0)[Int.toNat o1]?.getD (S_api_Port.mk [] 0 0 []))] : List (S_api_Port)))])]) (by kernel_rfl) (by kernel_rfl) (by kernel_rfl)) ?_
      refine To.keep (kk := [0, 3]) (kl := [1003]) (K' := [(0, .recs (α := S_api_Port) (S_api_Port.mk [] 0 0 []) E_api_Port v0), (3, .row 1003)]) (L' := [(1003, 24, [.rowc false (α := S_api_Port) (S_api_Port.mk [] 0 0 []) E_api_Port (v3 ++ ([((v0)[Int.toNat o1]?.getD (S_api_Port.mk [] 0 0 []))] : List (S_api_Port)))])]) (by kernel_rfl) (by kernel_rfl) ?_
      refine To.again ?_
      exact ih (v3 ++ ([((v0)[Int.toNat o1]?.getD (S_api_Port.mk [] 0 0 []))] : List (S_api_Port))) _ h hQ
def ref16_Sorted (n : Nat) (a0 : List (S_api_Port)) : Option ((List (S_api_Port))) :=
  (ref16_Sorted_l1 n a0 n ([] : List (S_api_Port))).bind fun o1 =>
  some o1
theorem ok_ref16_Sorted (n : Nat) (a0 : List (S_api_Port)) (r : (List (S_api_Port))) (h : ref16_Sorted n a0 = some r) : CallsX Tryd.prog 29 [.recs (α := S_api_Port) (S_api_Port.mk [] 0 0 []) E_api_Port a0] (.recs (α := S_api_Port) (S_api_Port.mk [] 0 0 []) E_api_Port r) := by
  unfold ref16_Sorted at h
  refine callsX_of (fn := Tryd.f29) (by kernel_rfl) rfl (by kernel_rfl) (Nat.le_of_ble_eq_true (by kernel_rfl)) fun F0 w0 _ => ?_
  refine Wp.keep (kk := [0]) (kl := []) (K' := [(0, .recs (α := S_api_Port) (S_api_Port.mk [] 0 0 []) E_api_Port a0)]) (L' := []) (by kernel_rfl) (by kernel_rfl) ?_
  refine Wp.seq ?_
  refine Wp.region hΓ [] [] [] [0] [] (K' := [(0, .recs (α := S_api_Port) (S_api_Port.mk [] 0 0 []) E_api_Port a0)]) (L' := []) (ob := []) (by kernel_rfl) AllP.nil ?_
  refine To.thenN ?_
  refine Wp.seq ?_
  refine Wp.region hΓ [] [(0, .recs (α := S_api_Port) (S_api_Port.mk [] 0 0 []) E_api_Port [])] [] [0, 3] [6] (K' := [(0, .recs (α := S_api_Port) (S_api_Port.mk [] 0 0 []) E_api_Port a0), (3, .row 6)]) (L' := [(6, 24, [.rowc false (α := S_api_Port) (S_api_Port.mk [] 0 0 []) E_api_Port []])]) (ob := [(MkOb 4 [] 0 (.recs (α := S_api_Port) (S_api_Port.mk [] 0 0 []) E_api_Port []) ∧ GoodR (.recs (α := S_api_Port) (S_api_Port.mk [] 0 0 []) E_api_Port []))]) (by kernel_rfl) (AllP.cons (mkOb (by kernel_rfl) rfl (by kernel_rfl) (good_E_api_Port _)) AllP.nil) ?_
  refine To.thenN ?_
  refine Wp.block ?_
  obtain ⟨o1, ho1, h⟩ := bind_of h
  refine Wp.keep (kk := [0, 3]) (kl := [6]) (K' := [(0, .recs (α := S_api_Port) (S_api_Port.mk [] 0 0 []) E_api_Port a0), (3, .row 6)]) (L' := [(6, 24, [.rowc false (α := S_api_Port) (S_api_Port.mk [] 0 0 []) E_api_Port []])]) (by kernel_rfl) (by kernel_rfl) ?_
  refine Wp.pre (St.rename 6 1003 (by decide) (K' := [(0, .recs (α := S_api_Port) (S_api_Port.mk [] 0 0 []) E_api_Port a0), (3, .row 1003)]) (L' := [(1003, 24, [.rowc false (α := S_api_Port) (S_api_Port.mk [] 0 0 []) E_api_Port []])]) (by kernel_rfl) (by kernel_rfl) (by kernel_rfl)) ?_
  refine Wp.keep (kk := [0, 3]) (kl := [1003]) (K' := [(0, .recs (α := S_api_Port) (S_api_Port.mk [] 0 0 []) E_api_Port a0), (3, .row 1003)]) (L' := [(1003, 24, [.rowc false (α := S_api_Port) (S_api_Port.mk [] 0 0 []) E_api_Port []])]) (by kernel_rfl) (by kernel_rfl) ?_
  refine Wp.loopL ?_
  refine ok_ref16_Sorted_l1 n a0 n ([] : List (S_api_Port)) o1 ho1 ?_
  refine To.blockR ?_
  refine To.keep (kk := [2]) (kl := [1002]) (K' := [(2, .row 1002)]) (L' := [(1002, 24, [.rowc false (α := S_api_Port) (S_api_Port.mk [] 0 0 []) E_api_Port o1])]) (by kernel_rfl) (by kernel_rfl) ?_
  refine To.pre (St.settle (ks := [1002]) (kk := [2]) (kl := [1002]) (K' := [(2, .row 1002)]) (L' := [(1002, 24, [.rowc true (α := S_api_Port) (S_api_Port.mk [] 0 0 []) E_api_Port o1])]) (by kernel_rfl)) ?_
  refine To.pre (St.sealK [2] (K' := [(2, .recs (α := S_api_Port) (S_api_Port.mk [] 0 0 []) E_api_Port o1)]) (by kernel_rfl)) ?_
  refine To.keep (kk := [2]) (kl := []) (K' := [(2, .recs (α := S_api_Port) (S_api_Port.mk [] 0 0 []) E_api_Port o1)]) (L' := []) (by kernel_rfl) (by kernel_rfl) ?_
  cases h
  exact To.done hΓ (by kernel_rfl)
def ref16_Same_l1 (n : Nat) (v0 : List (S_api_Port)) (v1 : List (S_api_Port)) : Nat → Int → Option (Sum (Unit) (Bool))
  | 0, _ => none
  | k + 1, v5 => if (decide (v5 < (List.length v0 : Int))) = true then (if (decide (0 ≤ v5 ∧ v5 < (List.length v0 : Int))) = true then (if (decide (0 ≤ v5 ∧ v5 < (List.length v1 : Int))) = true then (lett ((!((((v0)[Int.toNat v5]?.getD (S_api_Port.mk [] 0 0 [])).f_Host == ((v1)[Int.toNat v5]?.getD (S_api_Port.mk [] 0 0 [])).f_Host) && ((((v0)[Int.toNat v5]?.getD (S_api_Port.mk [] 0 0 [])).f_Out == ((v1)[Int.toNat v5]?.getD (S_api_Port.mk [] 0 0 [])).f_Out) && ((((v0)[Int.toNat v5]?.getD (S_api_Port.mk [] 0 0 [])).f_In == ((v1)[Int.toNat v5]?.getD (S_api_Port.mk [] 0 0 [])).f_In) && (((v0)[Int.toNat v5]?.getD (S_api_Port.mk [] 0 0 [])).f_Proto == ((v1)[Int.toNat v5]?.getD (S_api_Port.mk [] 0 0 [])).f_Proto))))) : Bool) fun x1 =>
  if x1 = true then (some (.inr false))
  else (ref16_Same_l1 n v0 v1 k (IntKind.wrap .i64 (v5 + 1)))) else none) else none)
  else (some (.inl ()))
theorem ok_ref16_Same_l1 (n : Nat) (v0 : List (S_api_Port)) (v1 : List (S_api_Port)) {F0 : Fz} {w0 : Pt Tryd.prog} {Q : Exit → Act → World → Prop} (k : Nat) : ∀ (v5 : Int) (o : Sum (Unit) (Bool)), ref16_Same_l1 n v0 v1 k v5 = some o → (Sum.elim (fun s => To 26 F0 w0 [] [] (.exit 0) Q) (fun s => To 26 F0 w0 [(4, .val (.bool s))] [] .ret Q)) o → WL Tryd.prog 26 F0 w0 [(0, .recs (α := S_api_Port) (S_api_Port.mk [] 0 0 []) E_api_Port v0), (1, .recs (α := S_api_Port) (S_api_Port.mk [] 0 0 []) E_api_Port v1), (5, .val (.int .i64 v5))] [] (cI (cI (cB (cA (cB (cB (cF Tryd.f28))))))) Q := by
  induction k with
  | zero => intro v5 o h; cases h
  | succ k ih =>
    intro v5 o h hQ
    rw [ref16_Same_l1] at h
    refine WL.round ?_
    refine Wp.seq ?_
    refine Wp.seq ?_
    refine Wp.region hΓ [] [] [] [0, 1, 5, 14] [] (K' := [(0, .recs (α := S_api_Port) (S_api_Port.mk [] 0 0 []) E_api_Port v0), (1, .recs (α := S_api_Port) (S_api_Port.mk [] 0 0 []) E_api_Port v1), (5, .val (.int .i64 v5)), (14, .val (.bool (decide (v5 < (List.length v0 : Int)))))]) (L' := []) (ob := []) (by kernel_rfl) AllP.nil ?_
    refine To.thenN ?_
    refine Wp.cond (b := (decide (v5 < (List.length v0 : Int)))) (by kernel_rfl) (fun hb => ?_) (fun hb => ?_)
    · replace h := if_t hb h
      refine Wp.skip ?_
      refine To.thenN ?_
      refine Wp.seq ?_
      refine Wp.block ?_
      refine Wp.seq ?_
      obtain ⟨hc2, h⟩ := chk_of h
      obtain ⟨hc3, h⟩ := chk_of h
      obtain ⟨x1, hx1, h⟩ := lett_of h
      refine Wp.regionD hm hΓ [] [0, 1, 5, 25] [] (K' := [(0, .recs (α := S_api_Port) (S_api_Port.mk [] 0 0 []) E_api_Port v0), (1, .recs (α := S_api_Port) (S_api_Port.mk [] 0 0 []) E_api_Port v1), (5, .val (.int .i64 v5)), (25, .val (.bool (!((((v0)[Int.toNat v5]?.getD (S_api_Port.mk [] 0 0 [])).f_Host == ((v1)[Int.toNat v5]?.getD (S_api_Port.mk [] 0 0 [])).f_Host) && ((((v0)[Int.toNat v5]?.getD (S_api_Port.mk [] 0 0 [])).f_Out == ((v1)[Int.toNat v5]?.getD (S_api_Port.mk [] 0 0 [])).f_Out) && ((((v0)[Int.toNat v5]?.getD (S_api_Port.mk [] 0 0 [])).f_In == ((v1)[Int.toNat v5]?.getD (S_api_Port.mk [] 0 0 [])).f_In) && (((v0)[Int.toNat v5]?.getD (S_api_Port.mk [] 0 0 [])).f_Proto == ((v1)[Int.toNat v5]?.getD (S_api_Port.mk [] 0 0 [])).f_Proto)))))))]) (L' := []) (ob := [(decide (0 ≤ v5 ∧ v5 < (List.length v0 : Int))) = true, (decide (0 ≤ v5 ∧ v5 < (List.length v1 : Int))) = true]) (by kernel_rfl) (AllP.cons hc2 (AllP.cons hc3 AllP.nil)) ?_
      refine To.eq (K' := [(0, .recs (α := S_api_Port) (S_api_Port.mk [] 0 0 []) E_api_Port v0), (1, .recs (α := S_api_Port) (S_api_Port.mk [] 0 0 []) E_api_Port v1), (5, .val (.int .i64 v5)), (25, .val (.bool x1))]) (L' := []) (by cases hx1; rfl) (by cases hx1; rfl) ?_
      refine To.thenN ?_
      refine Wp.cond (b := x1) (by kernel_rfl) (fun hb => ?_) (fun hb => ?_)
      · replace h := if_t hb h
        refine Wp.seq ?_
        refine Wp.region hΓ [] [] [] [4] [] (K' := [(4, .val (.bool false))]) (L' := []) (ob := []) (by kernel_rfl) AllP.nil ?_
        refine To.thenN ?_
        refine Wp.ret ?_
        refine To.blockR ?_
        refine To.thenR ?_
        refine To.thenR ?_
        refine To.keep (kk := [4]) (kl := []) (K' := [(4, .val (.bool false))]) (L' := []) (by kernel_rfl) (by kernel_rfl) ?_
        cases h
        exact hQ
      · replace h := if_f hb h
        refine Wp.skip ?_
        refine To.blockN ?_
        refine To.thenN ?_
        refine Wp.region hΓ [] [] [] [0, 1, 5] [] (K' := [(0, .recs (α := S_api_Port) (S_api_Port.mk [] 0 0 []) E_api_Port v0), (1, .recs (α := S_api_Port) (S_api_Port.mk [] 0 0 []) E_api_Port v1), (5, .val (.int .i64 (IntKind.wrap .i64 (v5 + 1))))]) (L' := []) (ob := []) (by kernel_rfl) AllP.nil ?_
        refine To.keep (kk := [0, 1, 5]) (kl := []) (K' := [(0, .recs (α := S_api_Port) (S_api_Port.mk [] 0 0 []) E_api_Port v0), (1, .recs (α := S_api_Port) (S_api_Port.mk [] 0 0 []) E_api_Port v1), (5, .val (.int .i64 (IntKind.wrap .i64 (v5 + 1))))]) (L' := []) (by kernel_rfl) (by kernel_rfl) ?_
        refine To.again ?_
        exact ih (IntKind.wrap .i64 (v5 + 1)) _ h hQ
    · replace h := if_f hb h
      refine Wp.exit ?_
      refine To.thenX ?_
      refine To.thenX ?_
      refine To.keep (kk := []) (kl := []) (K' := []) (L' := []) (by kernel_rfl) (by kernel_rfl) ?_
      cases h
      exact hQ
def ref16_Same (n : Nat) (a0 : List (S_api_Port)) (a1 : List (S_api_Port)) : Option (Bool) :=
  if ((List.length a0 : Int) != (List.length a1 : Int)) = true then some false
  else ((ref16_Same_l1 n a0 a1 n 0).bind fun o1 =>
  (Sum.elim (fun o1 => some true) (fun o1 => some o1)) o1)
theorem ok_ref16_Same (n : Nat) (a0 : List (S_api_Port)) (a1 : List (S_api_Port)) (r : Bool) (h : ref16_Same n a0 a1 = some r) : CallsX Tryd.prog 28 [.recs (α := S_api_Port) (S_api_Port.mk [] 0 0 []) E_api_Port a0, .recs (α := S_api_Port) (S_api_Port.mk [] 0 0 []) E_api_Port a1] (.val (.bool r)) := by
  unfold ref16_Same at h
  refine callsX_of (fn := Tryd.f28) (by kernel_rfl) rfl (by kernel_rfl) (Nat.le_of_ble_eq_true (by kernel_rfl)) fun F0 w0 _ => ?_
  refine Wp.keep (kk := [0, 1]) (kl := []) (K' := [(0, .recs (α := S_api_Port) (S_api_Port.mk [] 0 0 []) E_api_Port a0), (1, .recs (α := S_api_Port) (S_api_Port.mk [] 0 0 []) E_api_Port a1)]) (L' := []) (by kernel_rfl) (by kernel_rfl) ?_
  refine Wp.seq ?_
  refine Wp.region hΓ [] [] [] [0, 1] [] (K' := [(0, .recs (α := S_api_Port) (S_api_Port.mk [] 0 0 []) E_api_Port a0), (1, .recs (α := S_api_Port) (S_api_Port.mk [] 0 0 []) E_api_Port a1)]) (L' := []) (ob := []) (by kernel_rfl) AllP.nil ?_
  refine To.thenN ?_
  refine Wp.seq ?_
  refine Wp.seq ?_
  refine Wp.region hΓ [] [] [] [0, 1, 10] [] (K' := [(0, .recs (α := S_api_Port) (S_api_Port.mk [] 0 0 []) E_api_Port a0), (1, .recs (α := S_api_Port) (S_api_Port.mk [] 0 0 []) E_api_Port a1), (10, .val (.bool ((List.length a0 : Int) != (List.length a1 : Int))))]) (L' := []) (ob := []) (by kernel_rfl) AllP.nil ?_
  refine To.thenN ?_
  refine Wp.cond (b := ((List.length a0 : Int) != (List.length a1 : Int))) (by kernel_rfl) (fun hb => ?_) (fun hb => ?_)
  · replace h := if_t hb h
    refine Wp.seq ?_
    refine Wp.region hΓ [] [] [] [4] [] (K' := [(4, .val (.bool false))]) (L' := []) (ob := []) (by kernel_rfl) AllP.nil ?_
    refine To.thenN ?_
    refine Wp.ret ?_
    refine To.thenR ?_
    refine To.keep (kk := [4]) (kl := []) (K' := [(4, .val (.bool false))]) (L' := []) (by kernel_rfl) (by kernel_rfl) ?_
    cases h
    exact To.done hΓ (by kernel_rfl)
  · replace h := if_f hb h
    refine Wp.skip ?_
    refine To.thenN ?_
    refine Wp.seq ?_
    refine Wp.seq ?_
    refine Wp.region hΓ [] [] [] [0, 1, 5] [] (K' := [(0, .recs (α := S_api_Port) (S_api_Port.mk [] 0 0 []) E_api_Port a0), (1, .recs (α := S_api_Port) (S_api_Port.mk [] 0 0 []) E_api_Port a1), (5, .val (.int .i64 0))]) (L' := []) (ob := []) (by kernel_rfl) AllP.nil ?_
    refine To.thenN ?_
    refine Wp.block ?_
    obtain ⟨o1, ho1, h⟩ := bind_of h
    refine Wp.keep (kk := [0, 1, 5]) (kl := []) (K' := [(0, .recs (α := S_api_Port) (S_api_Port.mk [] 0 0 []) E_api_Port a0), (1, .recs (α := S_api_Port) (S_api_Port.mk [] 0 0 []) E_api_Port a1), (5, .val (.int .i64 0))]) (L' := []) (by kernel_rfl) (by kernel_rfl) ?_
    refine Wp.loopL ?_
    refine ok_ref16_Same_l1 n a0 a1 n 0 o1 ho1 ?_
    rcases o1 with o1 | o1
    · replace h := sum_l h
      refine To.blockX ?_
      refine To.thenN ?_
      refine Wp.seq ?_
      refine Wp.region hΓ [] [] [] [4] [] (K' := [(4, .val (.bool true))]) (L' := []) (ob := []) (by kernel_rfl) AllP.nil ?_
      refine To.thenN ?_
      refine Wp.ret ?_
      refine To.keep (kk := [4]) (kl := []) (K' := [(4, .val (.bool true))]) (L' := []) (by kernel_rfl) (by kernel_rfl) ?_
      cases h
      exact To.done hΓ (by kernel_rfl)
    · replace h := sum_r h
      refine To.blockR ?_
      refine To.thenR ?_
      refine To.keep (kk := [4]) (kl := []) (K' := [(4, .val (.bool o1))]) (L' := []) (by kernel_rfl) (by kernel_rfl) ?_
      cases h
      exact To.done hΓ (by kernel_rfl)
def law16_PortLists_l1 (n : Nat) (v0 : List (S_api_Port)) (v5 : Bool) : Nat → Int → Option (Sum (Unit) (Bool))
  | 0, _ => none
  | k + 1, v10 => if (decide (v10 < (List.length v0 : Int))) = true then (if (decide (0 ≤ (IntKind.wrap .i64 (v10 - 1)) ∧ (IntKind.wrap .i64 (v10 - 1)) < (List.length v0 : Int))) = true then (if (decide (0 ≤ v10 ∧ v10 < (List.length v0 : Int))) = true then (lett (port_Clash ((v0)[Int.toNat (IntKind.wrap .i64 (v10 - 1))]?.getD (S_api_Port.mk [] 0 0 [])) ((v0)[Int.toNat v10]?.getD (S_api_Port.mk [] 0 0 []))) fun r10 =>
  lett (ref16_Clash ((v0)[Int.toNat (IntKind.wrap .i64 (v10 - 1))]?.getD (S_api_Port.mk [] 0 0 [])) ((v0)[Int.toNat v10]?.getD (S_api_Port.mk [] 0 0 []))) fun r11 =>
  if ((!((!(r10 == r11)) == false) || decide (0 ≤ (IntKind.wrap .i64 (v10 - 1)) ∧ (IntKind.wrap .i64 (v10 - 1)) < (List.length v0 : Int)))) = true then (if ((!((!(r10 == r11)) == false) || decide (0 ≤ v10 ∧ v10 < (List.length v0 : Int)))) = true then (lett (port_Clash ((v0)[Int.toNat (IntKind.wrap .i64 (v10 - 1))]?.getD (S_api_Port.mk [] 0 0 [])) ((v0)[Int.toNat v10]?.getD (S_api_Port.mk [] 0 0 []))) fun r12 =>
  lett (port_Clash ((v0)[Int.toNat v10]?.getD (S_api_Port.mk [] 0 0 [])) ((v0)[Int.toNat (IntKind.wrap .i64 (v10 - 1))]?.getD (S_api_Port.mk [] 0 0 []))) fun r13 =>
  if (bif (!(r10 == r11)) then true else (!(r12 == r13))) = true then (some (.inr false))
  else (law16_PortLists_l1 n v0 v5 k (IntKind.wrap .i64 (v10 + 1)))) else none) else none) else none) else none)
  else (some (.inl ()))
theorem ok_law16_PortLists_l1 (n : Nat) (v0 : List (S_api_Port)) (v5 : Bool) {F0 : Fz} {w0 : Pt Tryd.prog} {Q : Exit → Act → World → Prop} (k : Nat) : ∀ (v10 : Int) (o : Sum (Unit) (Bool)), law16_PortLists_l1 n v0 v5 k v10 = some o → (Sum.elim (fun s => To 137 F0 w0 [(0, .recs (α := S_api_Port) (S_api_Port.mk [] 0 0 []) E_api_Port v0), (5, .val (.bool v5))] [] (.exit 0) Q) (fun s => To 137 F0 w0 [(2, .val (.bool s))] [] .ret Q)) o → WL Tryd.prog 137 F0 w0 [(0, .recs (α := S_api_Port) (S_api_Port.mk [] 0 0 []) E_api_Port v0), (5, .val (.bool v5)), (10, .val (.int .i64 v10))] [] (cI (cI (cB (cA (cB (cB (cB (cB (cB (cB (cF Tryd.f8))))))))))) Q := by
  induction k with
  | zero => intro v10 o h; cases h
  | succ k ih =>
    intro v10 o h hQ
    rw [law16_PortLists_l1] at h
    refine WL.round ?_
    refine Wp.seq ?_
    refine Wp.seq ?_
    refine Wp.region hΓ [] [] [] [0, 5, 10, 64] [] (K' := [(0, .recs (α := S_api_Port) (S_api_Port.mk [] 0 0 []) E_api_Port v0), (5, .val (.bool v5)), (10, .val (.int .i64 v10)), (64, .val (.bool (decide (v10 < (List.length v0 : Int)))))]) (L' := []) (ob := []) (by kernel_rfl) AllP.nil ?_
    refine To.thenN ?_
    refine Wp.cond (b := (decide (v10 < (List.length v0 : Int)))) (by kernel_rfl) (fun hb => ?_) (fun hb => ?_)
    · replace h := if_t hb h
      refine Wp.skip ?_
      refine To.thenN ?_
      refine Wp.seq ?_
      refine Wp.block ?_
      refine Wp.seq ?_
      obtain ⟨hc14, h⟩ := chk_of h
      obtain ⟨hc15, h⟩ := chk_of h
      obtain ⟨r10, hr10, h⟩ := lett_of h
      obtain ⟨r11, hr11, h⟩ := lett_of h
      obtain ⟨hc16, h⟩ := chk_of h
      obtain ⟨hc17, h⟩ := chk_of h
      obtain ⟨r12, hr12, h⟩ := lett_of h
      obtain ⟨r13, hr13, h⟩ := lett_of h
      refine Wp.regionD hm hΓ [(9, .val (.bool r10)), (19, .val (.bool r11)), (31, .val (.bool r12)), (41, .val (.bool r13))] [0, 5, 10, 110] [] (K' := [(0, .recs (α := S_api_Port) (S_api_Port.mk [] 0 0 []) E_api_Port v0), (5, .val (.bool v5)), (10, .val (.int .i64 v10)), (110, .val (.bool (bif (!(r10 == r11)) then true else (!(r12 == r13)))))]) (L' := []) (ob := [(decide (0 ≤ (IntKind.wrap .i64 (v10 - 1)) ∧ (IntKind.wrap .i64 (v10 - 1)) < (List.length v0 : Int))) = true, (decide (0 ≤ v10 ∧ v10 < (List.length v0 : Int))) = true, (true = true → CX Tryd.prog 30 [.agg [.str (((v0)[Int.toNat (IntKind.wrap .i64 (v10 - 1))]?.getD (S_api_Port.mk [] 0 0 [])).f_Host), .val (.int .i64 (((v0)[Int.toNat (IntKind.wrap .i64 (v10 - 1))]?.getD (S_api_Port.mk [] 0 0 [])).f_Out)), .val (.int .i64 (((v0)[Int.toNat (IntKind.wrap .i64 (v10 - 1))]?.getD (S_api_Port.mk [] 0 0 [])).f_In)), .str (((v0)[Int.toNat (IntKind.wrap .i64 (v10 - 1))]?.getD (S_api_Port.mk [] 0 0 [])).f_Proto)], .agg [.str (((v0)[Int.toNat v10]?.getD (S_api_Port.mk [] 0 0 [])).f_Host), .val (.int .i64 (((v0)[Int.toNat v10]?.getD (S_api_Port.mk [] 0 0 [])).f_Out)), .val (.int .i64 (((v0)[Int.toNat v10]?.getD (S_api_Port.mk [] 0 0 [])).f_In)), .str (((v0)[Int.toNat v10]?.getD (S_api_Port.mk [] 0 0 [])).f_Proto)]] (.val (.bool r10))), (decide (0 ≤ (IntKind.wrap .i64 (v10 - 1)) ∧ (IntKind.wrap .i64 (v10 - 1)) < (List.length v0 : Int))) = true, (decide (0 ≤ v10 ∧ v10 < (List.length v0 : Int))) = true, (true = true → CX Tryd.prog 31 [.agg [.str (((v0)[Int.toNat (IntKind.wrap .i64 (v10 - 1))]?.getD (S_api_Port.mk [] 0 0 [])).f_Host), .val (.int .i64 (((v0)[Int.toNat (IntKind.wrap .i64 (v10 - 1))]?.getD (S_api_Port.mk [] 0 0 [])).f_Out)), .val (.int .i64 (((v0)[Int.toNat (IntKind.wrap .i64 (v10 - 1))]?.getD (S_api_Port.mk [] 0 0 [])).f_In)), .str (((v0)[Int.toNat (IntKind.wrap .i64 (v10 - 1))]?.getD (S_api_Port.mk [] 0 0 [])).f_Proto)], .agg [.str (((v0)[Int.toNat v10]?.getD (S_api_Port.mk [] 0 0 [])).f_Host), .val (.int .i64 (((v0)[Int.toNat v10]?.getD (S_api_Port.mk [] 0 0 [])).f_Out)), .val (.int .i64 (((v0)[Int.toNat v10]?.getD (S_api_Port.mk [] 0 0 [])).f_In)), .str (((v0)[Int.toNat v10]?.getD (S_api_Port.mk [] 0 0 [])).f_Proto)]] (.val (.bool r11))), (!((!(r10 == r11)) == false) || decide (0 ≤ (IntKind.wrap .i64 (v10 - 1)) ∧ (IntKind.wrap .i64 (v10 - 1)) < (List.length v0 : Int))) = true, (!((!(r10 == r11)) == false) || decide (0 ≤ v10 ∧ v10 < (List.length v0 : Int))) = true, (((!(r10 == r11)) == false) = true → CX Tryd.prog 30 [.agg [.str (((v0)[Int.toNat (IntKind.wrap .i64 (v10 - 1))]?.getD (S_api_Port.mk [] 0 0 [])).f_Host), .val (.int .i64 (((v0)[Int.toNat (IntKind.wrap .i64 (v10 - 1))]?.getD (S_api_Port.mk [] 0 0 [])).f_Out)), .val (.int .i64 (((v0)[Int.toNat (IntKind.wrap .i64 (v10 - 1))]?.getD (S_api_Port.mk [] 0 0 [])).f_In)), .str (((v0)[Int.toNat (IntKind.wrap .i64 (v10 - 1))]?.getD (S_api_Port.mk [] 0 0 [])).f_Proto)], .agg [.str (((v0)[Int.toNat v10]?.getD (S_api_Port.mk [] 0 0 [])).f_Host), .val (.int .i64 (((v0)[Int.toNat v10]?.getD (S_api_Port.mk [] 0 0 [])).f_Out)), .val (.int .i64 (((v0)[Int.toNat v10]?.getD (S_api_Port.mk [] 0 0 [])).f_In)), .str (((v0)[Int.toNat v10]?.getD (S_api_Port.mk [] 0 0 [])).f_Proto)]] (.val (.bool r12))), (!((!(r10 == r11)) == false) || decide (0 ≤ v10 ∧ v10 < (List.length v0 : Int))) = true, (!((!(r10 == r11)) == false) || decide (0 ≤ (IntKind.wrap .i64 (v10 - 1)) ∧ (IntKind.wrap .i64 (v10 - 1)) < (List.length v0 : Int))) = true, (((!(r10 == r11)) == false) = true → CX Tryd.prog 30 [.agg [.str (((v0)[Int.toNat v10]?.getD (S_api_Port.mk [] 0 0 [])).f_Host), .val (.int .i64 (((v0)[Int.toNat v10]?.getD (S_api_Port.mk [] 0 0 [])).f_Out)), .val (.int .i64 (((v0)[Int.toNat v10]?.getD (S_api_Port.mk [] 0 0 [])).f_In)), .str (((v0)[Int.toNat v10]?.getD (S_api_Port.mk [] 0 0 [])).f_Proto)], .agg [.str (((v0)[Int.toNat (IntKind.wrap .i64 (v10 - 1))]?.getD (S_api_Port.mk [] 0 0 [])).f_Host), .val (.int .i64 (((v0)[Int.toNat (IntKind.wrap .i64 (v10 - 1))]?.getD (S_api_Port.mk [] 0 0 [])).f_Out)), .val (.int .i64 (((v0)[Int.toNat (IntKind.wrap .i64 (v10 - 1))]?.getD (S_api_Port.mk [] 0 0 [])).f_In)), .str (((v0)[Int.toNat (IntKind.wrap .i64 (v10 - 1))]?.getD (S_api_Port.mk [] 0 0 [])).f_Proto)]] (.val (.bool r13)))]) (by kernel_rfl) (AllP.cons hc14 (AllP.cons hc15 (AllP.cons (fun _ => cx (ok_port_Clash ((v0)[Int.toNat (IntKind.wrap .i64 (v10 - 1))]?.getD (S_api_Port.mk [] 0 0 [])) ((v0)[Int.toNat v10]?.getD (S_api_Port.mk [] 0 0 [])) _ hr10)) (AllP.cons hc14 (AllP.cons hc15 (AllP.cons (fun _ => cx (ok_ref16_Clash ((v0)[Int.toNat (IntKind.wrap .i64 (v10 - 1))]?.getD (S_api_Port.mk [] 0 0 [])) ((v0)[Int.toNat v10]?.getD (S_api_Port.mk [] 0 0 [])) _ hr11)) (AllP.cons hc16 (AllP.cons hc17 (AllP.cons (fun _ => cx (ok_port_Clash ((v0)[Int.toNat (IntKind.wrap .i64 (v10 - 1))]?.getD (S_api_Port.mk [] 0 0 [])) ((v0)[Int.toNat v10]?.getD (S_api_Port.mk [] 0 0 [])) _ hr12)) (AllP.cons hc17 (AllP.cons hc16 (AllP.cons (fun _ => cx (ok_port_Clash ((v0)[Int.toNat v10]?.getD (S_api_Port.mk [] 0 0 [])) ((v0)[Int.toNat (IntKind.wrap .i64 (v10 - 1))]?.getD (S_api_Port.mk [] 0 0 [])) _ hr13)) AllP.nil)))))))))))) ?_
      refine To.thenN ?_
      refine Wp.cond (b := (bif (!(r10 == r11)) then true else (!(r12 == r13)))) (by kernel_rfl) (fun hb => ?_) (fun hb => ?_)
      · replace h := if_t hb h
        refine Wp.seq ?_
        refine Wp.region hΓ [] [] [] [2] [] (K' := [(2, .val (.bool false))]) (L' := []) (ob := []) (by kernel_rfl) AllP.nil ?_
        refine To.thenN ?_
        refine Wp.ret ?_
        refine To.blockR ?_
        refine To.thenR ?_
        refine To.thenR ?_
        refine To.keep (kk := [2]) (kl := []) (K' := [(2, .val (.bool false))]) (L' := []) (by kernel_rfl) (by kernel_rfl) ?_
        cases h
        exact hQ
      · replace h := if_f hb h
        refine Wp.skip ?_
        refine To.blockN ?_
        refine To.thenN ?_
        refine Wp.region hΓ [] [] [] [0, 5, 10] [] (K' := [(0, .recs (α := S_api_Port) (S_api_Port.mk [] 0 0 []) E_api_Port v0), (5, .val (.bool v5)), (10, .val (.int .i64 (IntKind.wrap .i64 (v10 + 1))))]) (L' := []) (ob := []) (by kernel_rfl) AllP.nil ?_
        refine To.keep (kk := [0, 5, 10]) (kl := []) (K' := [(0, .recs (α := S_api_Port) (S_api_Port.mk [] 0 0 []) E_api_Port v0), (5, .val (.bool v5)), (10, .val (.int .i64 (IntKind.wrap .i64 (v10 + 1))))]) (L' := []) (by kernel_rfl) (by kernel_rfl) ?_
        refine To.again ?_
        exact ih (IntKind.wrap .i64 (v10 + 1)) _ h hQ
    · replace h := if_f hb h
      refine Wp.exit ?_
      refine To.thenX ?_
      refine To.thenX ?_
      refine To.keep (kk := [0, 5]) (kl := []) (K' := [(0, .recs (α := S_api_Port) (S_api_Port.mk [] 0 0 []) E_api_Port v0), (5, .val (.bool v5))]) (L' := []) (by kernel_rfl) (by kernel_rfl) ?_
      cases h
      exact hQ
def law16_PortLists_l2 (n : Nat) (v0 : List (S_api_Port)) (v5 : Bool) : Nat → (List (S_api_Port)) → Int → Option ((List (S_api_Port)))
  | 0, _, _ => none
  | k + 1, v11, v12 => if (decide (v12 ≥ 0)) = true then (if (decide (0 ≤ v12 ∧ v12 < (List.length v0 : Int))) = true then (if (decide ((List.length v11 + List.length ([((v0)[Int.toNat v12]?.getD (S_api_Port.mk [] 0 0 []))] : List (S_api_Port))) * (48 + 1) ≤ limit)) = true then (law16_PortLists_l2 n v0 v5 k (v11 ++ ([((v0)[Int.toNat v12]?.getD (S_api_Port.mk [] 0 0 []))] : List (S_api_Port))) (IntKind.wrap .i64 (v12 - 1))) else none) else none)
  else some v11
theorem ok_law16_PortLists_l2 (n : Nat) (v0 : List (S_api_Port)) (v5 : Bool) {F0 : Fz} {w0 : Pt Tryd.prog} {Q : Exit → Act → World → Prop} (k : Nat) : ∀ (v11 : List (S_api_Port)) (v12 : Int) (o : (List (S_api_Port))), law16_PortLists_l2 n v0 v5 k v11 v12 = some o → To 137 F0 w0 [(5, .val (.bool v5)), (11, .row 1011)] [(1011, 24, [.rowc false (α := S_api_Port) (S_api_Port.mk [] 0 0 []) E_api_Port o])] (.exit 2) Q → WL Tryd.prog 137 F0 w0 [(0, .recs (α := S_api_Port) (S_api_Port.mk [] 0 0 []) E_api_Port v0), (5, .val (.bool v5)), (11, .row 1011), (12, .val (.int .i64 v12))] [(1011, 24, [.rowc false (α := S_api_Port) (S_api_Port.mk [] 0 0 []) E_api_Port v11])] (cI (cI (cB (cA (cB (cB (cB (cB (cB (cB (cB (cB (cF Tryd.f8))))))))))))) Q := by
  induction k with
  | zero => intro v11 v12 o h; cases h
  | succ k ih =>
    intro v11 v12 o h hQ
    rw [law16_PortLists_l2] at h
    refine WL.round ?_
    refine Wp.seq ?_
    refine Wp.seq ?_
    refine Wp.region hΓ [] [] [] [0, 5, 11, 12, 115] [1011] (K' := [(0, .recs (α := S_api_Port) (S_api_Port.mk [] 0 0 []) E_api_Port v0), (5, .val (.bool v5)), (11, .row 1011), (12, .val (.int .i64 v12)), (115, .val (.bool (decide (v12 ≥ 0))))]) (L' := [(1011, 24, [.rowc false (α := S_api_Port) (S_api_Port.mk [] 0 0 []) E_api_Port v11])]) (ob := []) (by kernel_rfl) AllP.nil ?_
    refine To.thenN ?_
    refine Wp.cond (b := (decide (v12 ≥ 0))) (by kernel_rfl) (fun hb => ?_) (fun hb => ?_)
    · replace h := if_t hb h
      refine Wp.skip ?_
      refine To.thenN ?_
      refine Wp.seq ?_
      refine Wp.block ?_
      obtain ⟨hc11, h⟩ := chk_of h
      obtain ⟨hc12, h⟩ := chk_of h
      refine Wp.region hΓ [] [(5, .recs (α := S_api_Port) (S_api_Port.mk [] 0 0 []) E_api_Port ([((v0)[Int.toNat v12]?.getD (S_api_Port.mk [] 0 0 []))])), (6, .recs (α := S_api_Port) (S_api_Port.mk [] 0 0 []) E_api_Port (v11 ++ ([((v0)[Int.toNat v12]?.getD (S_api_Port.mk [] 0 0 []))] : List (S_api_Port))))] [] [0, 5, 11, 12] [124] (K' := [(0, .recs (α := S_api_Port) (S_api_Port.mk [] 0 0 []) E_api_Port v0), (5, .val (.bool v5)), (11, .row 124), (12, .val (.int .i64 v12))]) (L' := [(124, 24, [.rowc false (α := S_api_Port) (S_api_Port.mk [] 0 0 []) E_api_Port (v11 ++ ([((v0)[Int.toNat v12]?.getD (S_api_Port.mk [] 0 0 []))] : List (S_api_Port)))])]) (ob := [(decide (0 ≤ v12 ∧ v12 < (List.length v0 : Int))) = true, (MkOb 4 [.str (((v0)[Int.toNat v12]?.getD (S_api_Port.mk [] 0 0 [])).f_Host), .val (.int .i64 (((v0)[Int.toNat v12]?.getD (S_api_Port.mk [] 0 0 [])).f_Out)), .val (.int .i64 (((v0)[Int.toNat v12]?.getD (S_api_Port.mk [] 0 0 [])).f_In)), .str (((v0)[Int.toNat v12]?.getD (S_api_Port.mk [] 0 0 [])).f_Proto)] 1 (.recs (α := S_api_Port) (S_api_Port.mk [] 0 0 []) E_api_Port ([((v0)[Int.toNat v12]?.getD (S_api_Port.mk [] 0 0 []))])) ∧ GoodR (.recs (α := S_api_Port) (S_api_Port.mk [] 0 0 []) E_api_Port ([((v0)[Int.toNat v12]?.getD (S_api_Port.mk [] 0 0 []))]))), (decide ((List.length v11 + List.length ([((v0)[Int.toNat v12]?.getD (S_api_Port.mk [] 0 0 []))] : List (S_api_Port))) * (48 + 1) ≤ limit)) = true, (AppOb (S_api_Port.mk [] 0 0 []) E_api_Port v11 (List.flatMap E_api_Port ([((v0)[Int.toNat v12]?.getD (S_api_Port.mk [] 0 0 []))] : List (S_api_Port))) (List.length ([((v0)[Int.toNat v12]?.getD (S_api_Port.mk [] 0 0 []))] : List (S_api_Port))) (.recs (α := S_api_Port) (S_api_Port.mk [] 0 0 []) E_api_Port (v11 ++ ([((v0)[Int.toNat v12]?.getD (S_api_Port.mk [] 0 0 []))] : List (S_api_Port)))) ∧ GoodR (.recs (α := S_api_Port) (S_api_Port.mk [] 0 0 []) E_api_Port (v11 ++ ([((v0)[Int.toNat v12]?.getD (S_api_Port.mk [] 0 0 []))] : List (S_api_Port)))))]) (by kernel_rfl) (AllP.cons hc11 (AllP.cons (mkOb (by kernel_rfl) rfl (by kernel_rfl) (good_E_api_Port _)) (AllP.cons hc12 (AllP.cons (appOb rfl rfl (good_E_api_Port _)) AllP.nil)))) ?_
      refine To.blockN ?_
      refine To.thenN ?_
      refine Wp.region hΓ [] [] [] [0, 5, 11, 12] [124] (K' := [(0, .recs (α := S_api_Port) (S_api_Port.mk [] 0 0 []) E_api_Port v0), (5, .val (.bool v5)), (11, .row 124), (12, .val (.int .i64 (IntKind.wrap .i64 (v12 - 1))))]) (L' := [(124, 24, [.rowc false (α := S_api_Port) (S_api_Port.mk [] 0 0 []) E_api_Port (v11 ++ ([((v0)[Int.toNat v12]?.getD (S_api_Port.mk [] 0 0 []))] : List (S_api_Port)))])]) (ob := []) (by kernel_rfl) AllP.nil ?_
      refine To.keep (kk := [0, 5, 11, 12]) (kl := [124]) (K' := [(0, .recs (α := S_api_Port) (S_api_Port.mk [] 0 0 []) E_api_Port v0), (5, .val (.bool v5)), (11, .row 124), (12, .val (.int .i64 (IntKind.wrap .i64 (v12 - 1))))]) (L' := [(124, 24, [.rowc false (α := S_api_Port) (S_api_Port.mk [] 0 0 []) E_api_Port (v11 ++ ([((v0)[Int.toNat v12]?.getD (S_api_Port.mk [] 0 0 []))] : List (S_api_Port)))])]) (by kernel_rfl) (by kernel_rfl) ?_
      refine To.pre (St.rename 124 1011 (by decide) (K' := [(0, .recs (α := S_api_Port) (S_api_Port.mk [] 0 0 []) E_api_Port v0), (5, .val (.bool v5)), (11, .row 1011), (12, .val (.int .i64 (IntKind.wrap .i64 (v12 - 1))))]) (L' := [(1011, 24, [.rowc false (α := S_api_Port) (S_api_Port.mk [] 0 0 []) E_api_Port (v11 ++ ([((v0)[Int.toNat v12]?.getD (S_api_Port.mk [] 0 0 []))] : List (S_api_Port)))])]) (by kernel_rfl) (by kernel_rfl) (by kernel_rfl)) ?_
      refine To.keep (kk := [0, 5, 11, 12]) (kl := [1011]) (K' := [(0, .recs (α := S_api_Port) (S_api_Port.mk [] 0 0 []) E_api_Port v0), (5, .val (.bool v5)), (11, .row 1011), (12, .val (.int .i64 (IntKind.wrap .i64 (v12 - 1))))]) (L' := [(1011, 24, [.rowc false (α := S_api_Port) (S_api_Port.mk [] 0 0 []) E_api_Port (v11 ++ ([((v0)[Int.toNat v12]?.getD (S_api_Port.mk [] 0 0 []))] : List (S_api_Port)))])]) (by kernel_rfl) (by kernel_rfl) ?_
      refine To.again ?_
      exact ih (v11 ++ ([((v0)[Int.toNat v12]?.getD (S_api_Port.mk [] 0 0 []))] : List (S_api_Port))) (IntKind.wrap .i64 (v12 - 1)) _ h hQ
    · replace h := if_f hb h
      refine Wp.exit ?_
      refine To.thenX ?_
      refine To.thenX ?_
      refine To.keep (kk := [5, 11]) (kl := [1011]) (K' := [(5, .val (.bool v5)), (11, .row 1011)]) (L' := [(1011, 24, [.rowc false (α := S_api_Port) (S_api_Port.mk [] 0 0 []) E_api_Port v11])]) (by kernel_rfl) (by kernel_rfl) ?_
      cases h
      exact hQ
def law16_PortLists (n : Nat) (a0 : List (S_api_Port)) : Option (Bool) :=
  if (decide ((List.length a0 : Int) > 40)) = true then ((law16_awake n).bind fun r1 =>
  some r1)
  else ((port_First n a0).bind fun r2 =>
  (ref16_First n a0).bind fun r3 =>
  (port_Sorted n a0).bind fun r4 =>
  ((if ((bif (bif (r2.1 != r3.1) then true else (r2.2.1 != r3.2.1)) then true else (!(r2.2.2 == r3.2.2))) == false) = true then ref16_Sorted n a0 else some [])).bind fun r5 =>
  ((if ((bif (bif (r2.1 != r3.1) then true else (r2.2.1 != r3.2.1)) then true else (!(r2.2.2 == r3.2.2))) == false) = true then ref16_Same n r4 r5 else some false)).bind fun r6 =>
  ((if ((bif (bif (bif (r2.1 != r3.1) then true else (r2.2.1 != r3.2.1)) then true else (!(r2.2.2 == r3.2.2))) then true else (!r6)) == false) = true then port_Sorted n r4 else some [])).bind fun r7 =>
  ((if ((bif (bif (bif (r2.1 != r3.1) then true else (r2.2.1 != r3.2.1)) then true else (!(r2.2.2 == r3.2.2))) then true else (!r6)) == false) = true then ref16_Same n r7 r4 else some false)).bind fun r8 =>
  lett ((bif (bif (bif (bif (r2.1 != r3.1) then true else (r2.2.1 != r3.2.1)) then true else (!(r2.2.2 == r3.2.2))) then true else (!r6)) then true else (!r8)) : Bool) fun x9 =>
  if x9 = true then some false
  else ((law16_PortLists_l1 n a0 r2.2.2 n 1).bind fun o10 =>
  (Sum.elim (fun o10 => (law16_PortLists_l2 n a0 r2.2.2 n ([] : List (S_api_Port)) (IntKind.wrap .i64 ((List.length a0 : Int) - 1))).bind fun o11 =>
  (port_First n o11).bind fun r12 =>
  ((if ((r12.2.2 == r2.2.2) == true) = true then law16_awake n else some false)).bind fun r13 =>
  some (bif (r12.2.2 == r2.2.2) then r13 else false)) (fun o10 => some o10)) o10))
end Go.Proofs.YtonjhkefnijlhaaDoor.M
