import Derived.Test.YtjjlpomfnfipbaaDoorQRxAnyD
import Derived.Test.YtjjlpomfnfipbaaDoorQRxArgs
import Derived.Test.YtjjlpomfnfipbaaDoorQRxGoto
import Derived.Test.YtjjlpomfnfipbaaDoorQRxNil
import Derived.Test.YtjjlpomfnfipbaaDoorQRxOrd
import Derived.Test.YtjjlpomfnfipbaaDoorQRxEqArr
import Derived.Test.YtjjlpomfnfipbaaDoorQRxEnd
import Derived.Test.YtjjlpomfnfipbaaDoorQSh45
import Derived.Test.YtjjlpomfnfipbaaDoorQBld45
import Derived.Test.YtjjlpomfnfipbaaDoorProg
set_option linter.all false
namespace Go.Proofs.YtjjlpomfnfipbaaDoor.M
open Go.RowKit Go.Proofs.YtjjlpomfnfipbaaDoor.RX
set_option maxRecDepth 100000
def tab : List (Nat × TI) := [
  (3, { agg := false, size := 1, zero := [.int .i64 0], kind := .int .i64, eqs := [] }),
  (4, { agg := false, size := 1, zero := [.bool false], kind := .bool, eqs := [] }),
  (5, { agg := false, size := 1, zero := [.int .u8 0], kind := .int .u8, eqs := [] }),
  (9, { agg := false, size := 1, zero := [.string ⟨#[]⟩], kind := .str, eqs := [] }),
  (22, { agg := false, size := 1, zero := [.slice none 0 0], kind := .slice 1 false, elt := 9, eb := 16, ez := [.string ⟨#[]⟩], ek := none, eqs := [] }),
  (24, { agg := true, size := 7, zero := [.int .i64 0, .slice none 0 0, .int .i64 0, .bool false, .bool false, .int .i64 0, .int .i64 0], kind := .struct [(0, 1, false), (1, 1, false), (2, 1, false), (3, 1, false), (4, 1, false), (5, 1, false), (6, 1, false)], eqs := [] }),
  (26, { agg := true, size := 4, zero := [.string ⟨#[]⟩, .int .i64 0, .int .i64 0, .int .i64 0], kind := .struct [(0, 1, false), (1, 1, false), (2, 1, false), (3, 1, false)], eqs := [2, 0, 0, 0] }),
  (28, { agg := true, size := 13, zero := [.string ⟨#[]⟩, .string ⟨#[]⟩, .string ⟨#[]⟩, .int .i64 0, .string ⟨#[]⟩, .slice none 0 0, .slice none 0 0, .string ⟨#[]⟩, .int .i64 0, .int .i64 0, .int .i64 0, .int .i64 0, .int .i64 0], kind := .struct [(0, 1, false), (1, 1, false), (2, 1, false), (3, 1, false), (4, 1, false), (5, 1, false), (6, 1, false), (7, 4, true), (11, 1, false), (12, 1, false)], eqs := [] }),
  (30, { agg := true, size := 16, zero := [.int .i64 0, .string ⟨#[]⟩, .int .i64 0, .string ⟨#[]⟩, .string ⟨#[]⟩, .string ⟨#[]⟩, .int .i64 0, .string ⟨#[]⟩, .slice none 0 0, .slice none 0 0, .string ⟨#[]⟩, .int .i64 0, .int .i64 0, .int .i64 0, .int .i64 0, .int .i64 0], kind := .struct [(0, 1, false), (1, 1, false), (2, 1, false), (3, 13, true)], eqs := [] }),
  (32, { agg := true, size := 26, zero := [.int .i64 0, .int .i64 0, .int .i64 0, .int .i64 0, .slice none 0 0, .int .i64 0, .bool false, .bool false, .int .i64 0, .int .i64 0, .int .i64 0, .string ⟨#[]⟩, .int .i64 0, .string ⟨#[]⟩, .string ⟨#[]⟩, .string ⟨#[]⟩, .int .i64 0, .string ⟨#[]⟩, .slice none 0 0, .slice none 0 0, .string ⟨#[]⟩, .int .i64 0, .int .i64 0, .int .i64 0, .int .i64 0, .int .i64 0], kind := .struct [(0, 1, false), (1, 1, false), (2, 1, false), (3, 7, true), (10, 16, true)], eqs := [] }),
  (36, { agg := true, size := 26, zero := [.int .i64 0, .int .i64 0, .int .i64 0, .int .i64 0, .slice none 0 0, .int .i64 0, .bool false, .bool false, .int .i64 0, .int .i64 0, .int .i64 0, .string ⟨#[]⟩, .int .i64 0, .string ⟨#[]⟩, .string ⟨#[]⟩, .string ⟨#[]⟩, .int .i64 0, .string ⟨#[]⟩, .slice none 0 0, .slice none 0 0, .string ⟨#[]⟩, .int .i64 0, .int .i64 0, .int .i64 0, .int .i64 0, .int .i64 0], kind := .struct [(0, 1, false), (1, 1, false), (2, 1, false), (3, 7, true), (10, 16, true)], eqs := [] }),
  (41, { agg := false, size := 1, zero := [.slice none 0 0], kind := .slice 26 true, elt := 36, eb := 296, ez := [.int .i64 0, .int .i64 0, .int .i64 0, .int .i64 0, .slice none 0 0, .int .i64 0, .bool false, .bool false, .int .i64 0, .int .i64 0, .int .i64 0, .string ⟨#[]⟩, .int .i64 0, .string ⟨#[]⟩, .string ⟨#[]⟩, .string ⟨#[]⟩, .int .i64 0, .string ⟨#[]⟩, .slice none 0 0, .slice none 0 0, .string ⟨#[]⟩, .int .i64 0, .int .i64 0, .int .i64 0, .int .i64 0, .int .i64 0], ek := none, eqs := [] }),
  (49, { agg := false, size := 1, zero := [.slice none 0 0], kind := .slice 26 true, elt := 32, eb := 296, ez := [.int .i64 0, .int .i64 0, .int .i64 0, .int .i64 0, .slice none 0 0, .int .i64 0, .bool false, .bool false, .int .i64 0, .int .i64 0, .int .i64 0, .string ⟨#[]⟩, .int .i64 0, .string ⟨#[]⟩, .string ⟨#[]⟩, .string ⟨#[]⟩, .int .i64 0, .string ⟨#[]⟩, .slice none 0 0, .slice none 0 0, .string ⟨#[]⟩, .int .i64 0, .int .i64 0, .int .i64 0, .int .i64 0, .int .i64 0], ek := none, eqs := [] }),
  (60, { agg := false, size := 1, zero := [.slice none 0 0], kind := .slice 1 false, elt := 5, eb := 1, ez := [.int .u8 0], ek := some .u8, eqs := [] }),
  (62, { agg := true, size := 2, zero := [.pointer none, .slice none 0 0], kind := .struct [(0, 1, false), (1, 1, false)], eqs := [] }),
  (72, { agg := true, size := 2, zero := [.slice none 0 0, .bool false], kind := .struct [(0, 1, false), (1, 1, false)], eqs := [] }),
  (82, { agg := false, size := 1, zero := [.slice none 0 0], kind := .slice 1 false, elt := 3, eb := 8, ez := [.int .i64 0], ek := some .i64, eqs := [] }),
  (97, { agg := true, size := 20, zero := [.int .u8 0, .int .u8 0, .int .u8 0, .int .u8 0, .int .u8 0, .int .u8 0, .int .u8 0, .int .u8 0, .int .u8 0, .int .u8 0, .int .u8 0, .int .u8 0, .int .u8 0, .int .u8 0, .int .u8 0, .int .u8 0, .int .u8 0, .int .u8 0, .int .u8 0, .int .u8 0], kind := .array 20 1 false, eqs := [] }),
  (98, { agg := false, size := 1, zero := [.int .u64 0], kind := .int .u64, eqs := [] })]
theorem tabOK : TabOK Tryd.prog tab := ⟨⟨by kernel_rfl, fun h => absurd rfl h⟩, ⟨by kernel_rfl, fun h => absurd rfl h⟩, ⟨by kernel_rfl, fun h => absurd rfl h⟩, ⟨by kernel_rfl, fun h => absurd rfl h⟩, ⟨by kernel_rfl, fun h => absurd rfl h⟩, ⟨by kernel_rfl, fun h => absurd rfl h⟩, ⟨by kernel_rfl, fun _ => eqCells_of (by kernel_rfl)⟩, ⟨by kernel_rfl, fun h => absurd rfl h⟩, ⟨by kernel_rfl, fun h => absurd rfl h⟩, ⟨by kernel_rfl, fun h => absurd rfl h⟩, ⟨by kernel_rfl, fun h => absurd rfl h⟩, ⟨by kernel_rfl, fun h => absurd rfl h⟩, ⟨by kernel_rfl, fun h => absurd rfl h⟩, ⟨by kernel_rfl, fun h => absurd rfl h⟩, ⟨by kernel_rfl, fun h => absurd rfl h⟩, ⟨by kernel_rfl, fun h => absurd rfl h⟩, ⟨by kernel_rfl, fun h => absurd rfl h⟩, ⟨by kernel_rfl, fun h => absurd rfl h⟩, ⟨by kernel_rfl, fun h => absurd rfl h⟩, trivial⟩
theorem hΓ : ΓOK Tryd.prog (tabΓ tab) := ΓOK.of tabOK
theorem hm : Tryd.prog.follows .mixedOrders = true := by kernel_rfl
structure S_api_Command where
  f_Kind : Int
  f_Services : List (List UInt8)
  f_Count : Int
  f_Orphans : Bool
  f_Volumes : Bool
  f_Timeout : Int
  f_Retries : Int
structure S_api_Check where
  f_Test : List UInt8
  f_Every : Int
  f_Start : Int
  f_Retries : Int
structure S_api_Spec where
  f_Name : List UInt8
  f_Project : List UInt8
  f_Service : List UInt8
  f_Number : Int
  f_Hash : List UInt8
  f_Nets : List (List UInt8)
  f_Vols : List (List UInt8)
  f_Health : S_api_Check
  f_Restart : Int
  f_Tries : Int
structure S_api_Call where
  f_Kind : Int
  f_Name : List UInt8
  f_Id : Int
  f_Spec : S_api_Spec
structure S_ref45_Step where
  f_Kind : Int
  f_N : Int
  f_M : Int
  f_Command : S_api_Command
  f_Call : S_api_Call
def E_string : List UInt8 → List D := fun x => [.str x]
abbrev vi (x : Int) : D := .val (.int .i64 x)
abbrev vb (x : Bool) : D := .val (.bool x)
abbrev ls (l : List (List UInt8)) : D := .recs (α := List UInt8) [] E_string l
theorem rg {nt : Nat} {F0 : Fz} {w0 : Pt Tryd.prog} {K K' : List (Nat × D)} {L L' : Boxes} {Q : Exit → Act → World → Prop} {id : Nat} {l : List Oper} (kk kl : List Nat) (h : evRegion (CX Tryd.prog) (CallsB Tryd.prog) (tabΓ tab) nt [] [] l [] K L kk kl = some (K', L', [])) (hn : To nt F0 w0 K' L' .normal Q) : Wp Tryd.prog nt F0 w0 K L (.region id l.toArray false) Q := Wp.region hΓ [] [] [] kk kl h AllP.nil hn
def law02_Few_l1 (n : Nat) (v0 : List (List UInt8)) : Nat → Int → Option (Sum (Unit) (Bool))
  | 0, _ => none
  | k + 1, v5 => if (decide (v5 < (List.length v0 : Int))) = true then (if (decide (0 ≤ v5 ∧ v5 < (List.length v0 : Int))) = true then (if (decide ((List.length ((v0)[Int.toNat v5]?.getD []) : Int) > 100)) = true then (some (.inr false))
  else (law02_Few_l1 n v0 k (IntKind.wrap .i64 (v5 + 1)))) else none)
  else (some (.inl ()))
theorem ok_law02_Few_l1 (n : Nat) (v0 : List (List UInt8)) {F0 : Fz} {w0 : Pt Tryd.prog} {Q : Exit → Act → World → Prop} (k : Nat) : ∀ (v5 : Int) (o : Sum (Unit) (Bool)), law02_Few_l1 n v0 k v5 = some o → (Sum.elim (fun s => To 22 F0 w0 [] [] (.exit 0) Q) (fun s => To 22 F0 w0 [(4, vb s)] [] .ret Q)) o → WL Tryd.prog 22 F0 w0 [(0, ls v0), (5, vi v5)] [] (cI (cI (cB (cA (cB (cB (cF Tryd.f19))))))) Q := by
  induction k with
  | zero => intro v5 o h; cases h
  | succ k ih =>
    intro v5 o h hQ
    rw [law02_Few_l1] at h
    refine WL.round ?_
    refine Wp.seq (Wp.seq ?_)
    refine rg [0, 5, 13] [] (K' := [(0, ls v0), (5, vi v5), (13, vb (decide (v5 < (List.length v0 : Int))))]) (L' := []) (by kernel_rfl) ?_
    refine To.thenN ?_
    refine Wp.cond (b := (decide (v5 < (List.length v0 : Int)))) (by kernel_rfl) (fun hb => ?_) (fun hb => ?_)
    · replace h := if_t hb h
      refine Wp.skip (To.thenN (Wp.seq (Wp.block (Wp.seq ?_))))
      obtain ⟨hc1, h⟩ := chk_of h
      refine Wp.region hΓ [] [] [] [0, 5, 21] [] (K' := [(0, ls v0), (5, vi v5), (21, vb (decide ((List.length ((v0)[Int.toNat v5]?.getD []) : Int) > 100)))]) (L' := []) (ob := [(decide (0 ≤ v5 ∧ v5 < (List.length v0 : Int))) = true]) (by kernel_rfl) (AllP.cons hc1 AllP.nil) ?_
      refine To.thenN ?_
      refine Wp.cond (b := (decide ((List.length ((v0)[Int.toNat v5]?.getD []) : Int) > 100))) (by kernel_rfl) (fun hb => ?_) (fun hb => ?_)
      · replace h := if_t hb h
        refine Wp.seq ?_
        refine rg [4] [] (K' := [(4, vb false)]) (L' := []) (by kernel_rfl) ?_
        refine To.thenN ?_
        refine Wp.ret ?_
        refine To.blockR ?_
        refine To.thenR ?_
        refine To.thenR ?_
        refine To.keep (kk := [4]) (kl := []) (K' := [(4, vb false)]) (L' := []) (by kernel_rfl) (by kernel_rfl) ?_
        cases h
        exact hQ
      · replace h := if_f hb h
        refine Wp.skip ?_
        refine To.blockN ?_
        refine To.thenN ?_
        refine rg [0, 5] [] (K' := [(0, ls v0), (5, vi (IntKind.wrap .i64 (v5 + 1)))]) (L' := []) (by kernel_rfl) ?_
        refine To.keep (kk := [0, 5]) (kl := []) (K' := [(0, ls v0), (5, vi (IntKind.wrap .i64 (v5 + 1)))]) (L' := []) (by kernel_rfl) (by kernel_rfl) ?_
        refine To.again ?_
        exact ih (IntKind.wrap .i64 (v5 + 1)) _ h hQ
    · replace h := if_f hb h
      refine Wp.exit ?_
      refine To.thenX ?_
      refine To.thenX ?_
      refine To.keep (kk := []) (kl := []) (K' := []) (L' := []) (by kernel_rfl) (by kernel_rfl) ?_
      cases h
      exact hQ
def law02_Few (n : Nat) (a0 : List (List UInt8)) (a1 : Int) : Option (Bool) :=
  if (decide ((List.length a0 : Int) > a1)) = true then some false
  else ((law02_Few_l1 n a0 n 0).bind fun o1 =>
  (Sum.elim (fun o1 => some true) (fun o1 => some o1)) o1)
theorem ok_law02_Few (n : Nat) (a0 : List (List UInt8)) (a1 : Int) (r : Bool) (h : law02_Few n a0 a1 = some r) : CallsX Tryd.prog 19 [ls a0, vi a1] (vb r) := by
  unfold law02_Few at h
  refine callsX_of (fn := Tryd.f19) (by kernel_rfl) rfl (by kernel_rfl) (Nat.le_of_ble_eq_true (by kernel_rfl)) fun F0 w0 _ => ?_
  refine Wp.keep (kk := [0, 1]) (kl := []) (K' := [(0, ls a0), (1, vi a1)]) (L' := []) (by kernel_rfl) (by kernel_rfl) ?_
  refine Wp.seq ?_
  refine rg [0, 1] [] (K' := [(0, ls a0), (1, vi a1)]) (L' := []) (by kernel_rfl) ?_
  refine To.thenN (Wp.seq (Wp.seq ?_))
  refine rg [0, 9] [] (K' := [(0, ls a0), (9, vb (decide ((List.length a0 : Int) > a1)))]) (L' := []) (by kernel_rfl) ?_
  refine To.thenN ?_
  refine Wp.cond (b := (decide ((List.length a0 : Int) > a1))) (by kernel_rfl) (fun hb => ?_) (fun hb => ?_)
  · replace h := if_t hb h
    refine Wp.seq ?_
    refine rg [4] [] (K' := [(4, vb false)]) (L' := []) (by kernel_rfl) ?_
    refine To.thenN ?_
    refine Wp.ret ?_
    refine To.thenR ?_
    refine To.keep (kk := [4]) (kl := []) (K' := [(4, vb false)]) (L' := []) (by kernel_rfl) (by kernel_rfl) ?_
    cases h
    exact To.done hΓ (by kernel_rfl)
  · replace h := if_f hb h
    refine Wp.skip (To.thenN (Wp.seq (Wp.seq ?_)))
    refine rg [0, 5] [] (K' := [(0, ls a0), (5, vi 0)]) (L' := []) (by kernel_rfl) ?_
    refine To.thenN (Wp.block ?_)
    obtain ⟨o1, ho1, h⟩ := bind_of h
    refine Wp.keep (kk := [0, 5]) (kl := []) (K' := [(0, ls a0), (5, vi 0)]) (L' := []) (by kernel_rfl) (by kernel_rfl) ?_
    refine Wp.loopL ?_
    refine ok_law02_Few_l1 n a0 n 0 o1 ho1 ?_
    rcases o1 with o1 | o1
    · replace h := sum_l h
      refine To.blockX ?_
      refine To.thenN (Wp.seq ?_)
      refine rg [4] [] (K' := [(4, vb true)]) (L' := []) (by kernel_rfl) ?_
      refine To.thenN ?_
      refine Wp.ret ?_
      refine To.keep (kk := [4]) (kl := []) (K' := [(4, vb true)]) (L' := []) (by kernel_rfl) (by kernel_rfl) ?_
      cases h
      exact To.done hΓ (by kernel_rfl)
    · replace h := sum_r h
      refine To.blockR ?_
      refine To.thenR ?_
      refine To.keep (kk := [4]) (kl := []) (K' := [(4, vb o1)]) (L' := []) (by kernel_rfl) (by kernel_rfl) ?_
      cases h
      exact To.done hΓ (by kernel_rfl)
def E_ref45_Step : S_ref45_Step → List D := fun x => [.val (.int .i64 x.f_Kind), .val (.int .i64 x.f_N), .val (.int .i64 x.f_M), .val (.int .i64 x.f_Command.f_Kind), .recs (α := List UInt8) [] E_string x.f_Command.f_Services, .val (.int .i64 x.f_Command.f_Count), .val (.bool x.f_Command.f_Orphans), .val (.bool x.f_Command.f_Volumes), .val (.int .i64 x.f_Command.f_Timeout), .val (.int .i64 x.f_Command.f_Retries), .val (.int .i64 x.f_Call.f_Kind), .str x.f_Call.f_Name, .val (.int .i64 x.f_Call.f_Id), .str x.f_Call.f_Spec.f_Name, .str x.f_Call.f_Spec.f_Project, .str x.f_Call.f_Spec.f_Service, .val (.int .i64 x.f_Call.f_Spec.f_Number), .str x.f_Call.f_Spec.f_Hash, .recs (α := List UInt8) [] E_string x.f_Call.f_Spec.f_Nets, .recs (α := List UInt8) [] E_string x.f_Call.f_Spec.f_Vols, .str x.f_Call.f_Spec.f_Health.f_Test, .val (.int .i64 x.f_Call.f_Spec.f_Health.f_Every), .val (.int .i64 x.f_Call.f_Spec.f_Health.f_Start), .val (.int .i64 x.f_Call.f_Spec.f_Health.f_Retries), .val (.int .i64 x.f_Call.f_Spec.f_Restart), .val (.int .i64 x.f_Call.f_Spec.f_Tries)]
def law45_Few (n : Nat) (a0 : S_ref45_Step) : Option (Bool) :=
  (law02_Few n a0.f_Command.f_Services 20).bind fun r1 =>
  lett ((bif (bif (bif (bif (bif r1 then (decide ((List.length a0.f_Call.f_Name : Int) ≤ 200)) else false) then (decide ((List.length a0.f_Call.f_Spec.f_Name : Int) ≤ 200)) else false) then (decide ((List.length a0.f_Call.f_Spec.f_Project : Int) ≤ 200)) else false) then (decide ((List.length a0.f_Call.f_Spec.f_Nets : Int) ≤ 10)) else false) then (decide ((List.length a0.f_Call.f_Spec.f_Vols : Int) ≤ 10)) else false) : Bool) fun x2 =>
  some x2
theorem ok_law45_Few (n : Nat) (a0 : S_ref45_Step) (r : Bool) (h : law45_Few n a0 = some r) : CallsX Tryd.prog 6 [.agg [vi a0.f_Kind, vi a0.f_N, vi a0.f_M, vi a0.f_Command.f_Kind, ls a0.f_Command.f_Services, vi a0.f_Command.f_Count, vb a0.f_Command.f_Orphans, vb a0.f_Command.f_Volumes, vi a0.f_Command.f_Timeout, vi a0.f_Command.f_Retries, vi a0.f_Call.f_Kind, .str a0.f_Call.f_Name, vi a0.f_Call.f_Id, .str a0.f_Call.f_Spec.f_Name, .str a0.f_Call.f_Spec.f_Project, .str a0.f_Call.f_Spec.f_Service, vi a0.f_Call.f_Spec.f_Number, .str a0.f_Call.f_Spec.f_Hash, ls a0.f_Call.f_Spec.f_Nets, ls a0.f_Call.f_Spec.f_Vols, .str a0.f_Call.f_Spec.f_Health.f_Test, vi a0.f_Call.f_Spec.f_Health.f_Every, vi a0.f_Call.f_Spec.f_Health.f_Start, vi a0.f_Call.f_Spec.f_Health.f_Retries, vi a0.f_Call.f_Spec.f_Restart, vi a0.f_Call.f_Spec.f_Tries]] (vb r) := by
  unfold law45_Few at h
  refine callsX_of (fn := Tryd.f6) (by kernel_rfl) rfl (by kernel_rfl) (Nat.le_of_ble_eq_true (by kernel_rfl)) fun F0 w0 _ => ?_
  refine Wp.keep (kk := [0]) (kl := []) (K' := [(0, .agg (E_ref45_Step a0))]) (L' := []) (by kernel_rfl) (by kernel_rfl) ?_
  refine Wp.seq ?_
  refine rg [1] [1] (K' := [(1, .own 1 0)]) (L' := [(1, 32, (E_ref45_Step a0))]) (by kernel_rfl) ?_
  refine To.thenN (Wp.seq ?_)
  obtain ⟨r1, hr1, h⟩ := bind_of h
  obtain ⟨x2, hx2, h⟩ := lett_of h
  refine Wp.region hΓ [] [(3, vb r1)] [] [2] [] (K' := [(2, vb (bif (bif (bif (bif (bif r1 then (decide ((List.length a0.f_Call.f_Name : Int) ≤ 200)) else false) then (decide ((List.length a0.f_Call.f_Spec.f_Name : Int) ≤ 200)) else false) then (decide ((List.length a0.f_Call.f_Spec.f_Project : Int) ≤ 200)) else false) then (decide ((List.length a0.f_Call.f_Spec.f_Nets : Int) ≤ 10)) else false) then (decide ((List.length a0.f_Call.f_Spec.f_Vols : Int) ≤ 10)) else false))]) (L' := []) (ob := [(true = true → CX Tryd.prog 19 [ls a0.f_Command.f_Services, vi 20] (vb r1))]) (by kernel_rfl) (AllP.cons (fun _ => cx (ok_law02_Few n a0.f_Command.f_Services 20 _ hr1)) AllP.nil) ?_
  refine To.eq (K' := [(2, vb x2)]) (L' := []) (by cases hx2; rfl) (by cases hx2; rfl) ?_
  refine To.thenN ?_
  refine Wp.ret ?_
  refine To.keep (kk := [2]) (kl := []) (K' := [(2, vb x2)]) (L' := []) (by kernel_rfl) (by kernel_rfl) ?_
  cases h
  exact To.done hΓ (by kernel_rfl)
structure S_script_words where
  f_l : List (List UInt8)
  f_bad : Bool
def script_words_next__o0 (n : Nat) (h0 : S_script_words) : Option ((List UInt8) × S_script_words) :=
  if ((List.length h0.f_l : Int) == 0) = true then (some ([], (S_script_words.mk h0.f_l true)))
  else (if (decide (0 ≤ (0 : Int) ∧ (0 : Int) < (List.length h0.f_l : Int))) = true then (if (decide (0 ≤ (1 : Int) ∧ (1 : Int) ≤ (List.length h0.f_l : Int))) = true then (some (((h0.f_l)[Int.toNat 0]?.getD []), (S_script_words.mk (List.drop (Int.toNat 1) h0.f_l) h0.f_bad))) else none) else none)
theorem ok_script_words_next__o0 (n : Nat) (h0 : S_script_words) (r : (List UInt8) × S_script_words) (h : script_words_next__o0 n h0 = some r) : CallsB Tryd.prog 29 [.own 1000000 0] [(1000000, 72, [ls h0.f_l, vb h0.f_bad])] (.str r.1) [(1000000, 72, [ls r.2.f_l, vb r.2.f_bad])] := by
  unfold script_words_next__o0 at h
  refine callsB_of (fn := Tryd.f29) (by kernel_rfl) rfl (by kernel_rfl) (Nat.le_of_ble_eq_true (by kernel_rfl)) fun F0 w0 => ?_
  refine Wp.keep (kk := [0]) (kl := [1000000]) (K' := [(0, .own 1000000 0)]) (L' := [(1000000, 72, [ls h0.f_l, vb h0.f_bad])]) (by kernel_rfl) (by kernel_rfl) ?_
  refine Wp.seq ?_
  refine rg [0] [1000000] (K' := [(0, .own 1000000 0)]) (L' := [(1000000, 72, [ls h0.f_l, vb h0.f_bad])]) (by kernel_rfl) ?_
  refine To.thenN (Wp.seq (Wp.seq ?_))
  refine rg [0, 9] [1000000] (K' := [(0, .own 1000000 0), (9, vb ((List.length h0.f_l : Int) == 0))]) (L' := [(1000000, 72, [ls h0.f_l, vb h0.f_bad])]) (by kernel_rfl) ?_
  refine To.thenN ?_
  refine Wp.cond (b := ((List.length h0.f_l : Int) == 0)) (by kernel_rfl) (fun hb => ?_) (fun hb => ?_)
  · replace h := if_t hb h
    refine Wp.seq ?_
    refine rg [] [1000000] (K' := []) (L' := [(1000000, 72, [ls h0.f_l, vb true])]) (by kernel_rfl) ?_
    refine To.thenN (Wp.seq ?_)
    refine rg [2] [1000000] (K' := [(2, .str [])]) (L' := [(1000000, 72, [ls h0.f_l, vb true])]) (by kernel_rfl) ?_
    refine To.thenN ?_
    refine Wp.ret ?_
    refine To.thenR ?_
    refine To.keep (kk := [2]) (kl := [1000000]) (K' := [(2, .str [])]) (L' := [(1000000, 72, [ls h0.f_l, vb true])]) (by kernel_rfl) (by kernel_rfl) ?_
    cases h
    exact To.doneB hΓ [1000000] (by kernel_rfl) (by kernel_rfl)
  · replace h := if_f hb h
    refine Wp.skip (To.thenN (Wp.seq ?_))
    obtain ⟨hc2, h⟩ := chk_of h
    refine Wp.region hΓ [] [] [] [0, 3] [1000000] (K' := [(0, .own 1000000 0), (3, .str ((h0.f_l)[Int.toNat 0]?.getD []))]) (L' := [(1000000, 72, [ls h0.f_l, vb h0.f_bad])]) (ob := [(decide (0 ≤ (0 : Int) ∧ (0 : Int) < (List.length h0.f_l : Int))) = true]) (by kernel_rfl) (AllP.cons hc2 AllP.nil) ?_
    refine To.thenN (Wp.seq ?_)
    obtain ⟨hc1, h⟩ := chk_of h
    refine Wp.region hΓ [] [] [] [3] [1000000] (K' := [(3, .str ((h0.f_l)[Int.toNat 0]?.getD []))]) (L' := [(1000000, 72, [ls (List.drop (Int.toNat 1) h0.f_l), vb h0.f_bad])]) (ob := [(decide (0 ≤ (1 : Int) ∧ (1 : Int) ≤ (List.length h0.f_l : Int))) = true]) (by kernel_rfl) (AllP.cons hc1 AllP.nil) ?_
    refine To.thenN (Wp.seq ?_)
    refine rg [2] [1000000] (K' := [(2, .str ((h0.f_l)[Int.toNat 0]?.getD []))]) (L' := [(1000000, 72, [ls (List.drop (Int.toNat 1) h0.f_l), vb h0.f_bad])]) (by kernel_rfl) ?_
    refine To.thenN ?_
    refine Wp.ret ?_
    refine To.keep (kk := [2]) (kl := [1000000]) (K' := [(2, .str ((h0.f_l)[Int.toNat 0]?.getD []))]) (L' := [(1000000, 72, [ls (List.drop (Int.toNat 1) h0.f_l), vb h0.f_bad])]) (by kernel_rfl) (by kernel_rfl) ?_
    cases h
    exact To.doneB hΓ [1000000] (by kernel_rfl) (by kernel_rfl)
def event_one (n : Nat) (a0 : Int) (a1 : List (List UInt8)) : Option ((List UInt8)) :=
  if (bif (decide (a0 < 1)) then true else (decide (a0 > (List.length a1 : Int)))) = true then (some [])
  else (if (decide (0 ≤ (IntKind.wrap .i64 (a0 - 1)) ∧ (IntKind.wrap .i64 (a0 - 1)) < (List.length a1 : Int))) = true then (some ((a1)[Int.toNat (IntKind.wrap .i64 (a0 - 1))]?.getD [])) else none)
theorem ok_event_one (n : Nat) (a0 : Int) (a1 : List (List UInt8)) (r : (List UInt8)) (h : event_one n a0 a1 = some r) : CallsX Tryd.prog 63 [vi a0, ls a1] (.str r) := by
  unfold event_one at h
  refine callsX_of (fn := Tryd.f63) (by kernel_rfl) rfl (by kernel_rfl) (Nat.le_of_ble_eq_true (by kernel_rfl)) fun F0 w0 _ => ?_
  refine Wp.keep (kk := [0, 1]) (kl := []) (K' := [(0, vi a0), (1, ls a1)]) (L' := []) (by kernel_rfl) (by kernel_rfl) ?_
  refine Wp.seq ?_
  refine rg [0, 1] [] (K' := [(0, vi a0), (1, ls a1)]) (L' := []) (by kernel_rfl) ?_
  refine To.thenN (Wp.seq (Wp.seq ?_))
  refine rg [0, 1, 12] [] (K' := [(0, vi a0), (1, ls a1), (12, vb (bif (decide (a0 < 1)) then true else (decide (a0 > (List.length a1 : Int)))))]) (L' := []) (by kernel_rfl) ?_
  refine To.thenN ?_
  refine Wp.cond (b := (bif (decide (a0 < 1)) then true else (decide (a0 > (List.length a1 : Int))))) (by kernel_rfl) (fun hb => ?_) (fun hb => ?_)
  · replace h := if_t hb h
    refine Wp.seq ?_
    refine rg [4] [] (K' := [(4, .str [])]) (L' := []) (by kernel_rfl) ?_
    refine To.thenN ?_
    refine Wp.ret ?_
    refine To.thenR ?_
    refine To.keep (kk := [4]) (kl := []) (K' := [(4, .str [])]) (L' := []) (by kernel_rfl) (by kernel_rfl) ?_
    cases h
    exact To.done hΓ (by kernel_rfl)
  · replace h := if_f hb h
    refine Wp.skip (To.thenN (Wp.seq ?_))
    obtain ⟨hc1, h⟩ := chk_of h
    refine Wp.region hΓ [] [] [] [4] [] (K' := [(4, .str ((a1)[Int.toNat (IntKind.wrap .i64 (a0 - 1))]?.getD []))]) (L' := []) (ob := [(decide (0 ≤ (IntKind.wrap .i64 (a0 - 1)) ∧ (IntKind.wrap .i64 (a0 - 1)) < (List.length a1 : Int))) = true]) (by kernel_rfl) (AllP.cons hc1 AllP.nil) ?_
    refine To.thenN ?_
    refine Wp.ret ?_
    refine To.keep (kk := [4]) (kl := []) (K' := [(4, .str ((a1)[Int.toNat (IntKind.wrap .i64 (a0 - 1))]?.getD []))]) (L' := []) (by kernel_rfl) (by kernel_rfl) ?_
    cases h
    exact To.done hΓ (by kernel_rfl)
theorem good_E_string (l : List (List UInt8)) : GoodR (.recs [] E_string l) := ⟨Nat.le_of_ble_eq_true (by kernel_rfl), fun _ => ⟨rfl, rfl⟩⟩
def event_Command (n : Nat) (a0 : Int) : Option ((List UInt8)) :=
  (event_one n a0 ([[117, 112], [100, 111, 119, 110], [115, 116, 111, 112], [114, 101, 115, 116, 97, 114, 116], [115, 99, 97, 108, 101], [114, 109]])).bind fun r1 =>
  some r1
theorem ok_event_Command (n : Nat) (a0 : Int) (r : (List UInt8)) (h : event_Command n a0 = some r) : CallsX Tryd.prog 42 [vi a0] (.str r) := by
  unfold event_Command at h
  refine callsX_of (fn := Tryd.f42) (by kernel_rfl) rfl (by kernel_rfl) (Nat.le_of_ble_eq_true (by kernel_rfl)) fun F0 w0 _ => ?_
  refine Wp.keep (kk := [0]) (kl := []) (K' := [(0, vi a0)]) (L' := []) (by kernel_rfl) (by kernel_rfl) ?_
  refine Wp.seq ?_
  refine rg [0] [] (K' := [(0, vi a0)]) (L' := []) (by kernel_rfl) ?_
  refine To.thenN (Wp.seq ?_)
  obtain ⟨r1, hr1, h⟩ := bind_of h
  refine Wp.region hΓ [(2, [4])] [(1, ls ([[117, 112], [100, 111, 119, 110], [115, 116, 111, 112], [114, 101, 115, 116, 97, 114, 116], [115, 99, 97, 108, 101], [114, 109]])), (2, .str r1)] [] [2] [] (K' := [(2, .str r1)]) (L' := []) (ob := [(MkOb 1 [.str [117, 112], .str [100, 111, 119, 110], .str [115, 116, 111, 112], .str [114, 101, 115, 116, 97, 114, 116], .str [115, 99, 97, 108, 101], .str [114, 109]] 6 (ls ([[117, 112], [100, 111, 119, 110], [115, 116, 111, 112], [114, 101, 115, 116, 97, 114, 116], [115, 99, 97, 108, 101], [114, 109]])) ∧ GoodR (ls ([[117, 112], [100, 111, 119, 110], [115, 116, 111, 112], [114, 101, 115, 116, 97, 114, 116], [115, 99, 97, 108, 101], [114, 109]]))), (true = true → CX Tryd.prog 63 [vi a0, ls ([[117, 112], [100, 111, 119, 110], [115, 116, 111, 112], [114, 101, 115, 116, 97, 114, 116], [115, 99, 97, 108, 101], [114, 109]])] (.str r1))]) (by kernel_rfl) (AllP.cons (mkOb (by kernel_rfl) rfl (by kernel_rfl) (good_E_string _)) (AllP.cons (fun _ => cx (ok_event_one n a0 ([[117, 112], [100, 111, 119, 110], [115, 116, 111, 112], [114, 101, 115, 116, 97, 114, 116], [115, 99, 97, 108, 101], [114, 109]]) _ hr1)) AllP.nil)) ?_
  refine To.thenN ?_
  refine Wp.ret ?_
  refine To.keep (kk := [2]) (kl := []) (K' := [(2, .str r1)]) (L' := []) (by kernel_rfl) (by kernel_rfl) ?_
  cases h
  exact To.done hΓ (by kernel_rfl)
def script_commandKind_l1 (n : Nat) (v0 : List UInt8) : Nat → Int → Option (Sum (Unit) (Int))
  | 0, _ => none
  | k + 1, v3 => if (decide (v3 ≤ 6)) = true then ((event_Command n v3).bind fun r1 =>
  if (r1 == v0) = true then (some (.inr v3))
  else (script_commandKind_l1 n v0 k (IntKind.wrap .i64 (v3 + 1))))
  else (some (.inl ()))
theorem ok_script_commandKind_l1 (n : Nat) (v0 : List UInt8) {F0 : Fz} {w0 : Pt Tryd.prog} {Q : Exit → Act → World → Prop} (k : Nat) : ∀ (v3 : Int) (o : Sum (Unit) (Int)), script_commandKind_l1 n v0 k v3 = some o → (Sum.elim (fun s => To 13 F0 w0 [] [] (.exit 0) Q) (fun s => To 13 F0 w0 [(2, vi s)] [] .ret Q)) o → WL Tryd.prog 13 F0 w0 [(0, .str v0), (3, vi v3)] [] (cI (cI (cB (cA (cB (cF Tryd.f30)))))) Q := by
  induction k with
  | zero => intro v3 o h; cases h
  | succ k ih =>
    intro v3 o h hQ
    rw [script_commandKind_l1] at h
    refine WL.round ?_
    refine Wp.seq (Wp.seq ?_)
    refine rg [0, 3, 5] [] (K' := [(0, .str v0), (3, vi v3), (5, vb (decide (v3 ≤ 6)))]) (L' := []) (by kernel_rfl) ?_
    refine To.thenN ?_
    refine Wp.cond (b := (decide (v3 ≤ 6))) (by kernel_rfl) (fun hb => ?_) (fun hb => ?_)
    · replace h := if_t hb h
      refine Wp.skip (To.thenN (Wp.seq (Wp.block (Wp.seq ?_))))
      obtain ⟨r1, hr1, h⟩ := bind_of h
      refine Wp.region hΓ [] [(1, .str r1)] [] [0, 3, 11] [] (K' := [(0, .str v0), (3, vi v3), (11, vb (r1 == v0))]) (L' := []) (ob := [(true = true → CX Tryd.prog 42 [vi v3] (.str r1))]) (by kernel_rfl) (AllP.cons (fun _ => cx (ok_event_Command n v3 _ hr1)) AllP.nil) ?_
      refine To.thenN ?_
      refine Wp.cond (b := (r1 == v0)) (by kernel_rfl) (fun hb => ?_) (fun hb => ?_)
      · replace h := if_t hb h
        refine Wp.seq ?_
        refine rg [2] [] (K' := [(2, vi v3)]) (L' := []) (by kernel_rfl) ?_
        refine To.thenN ?_
        refine Wp.ret ?_
        refine To.blockR ?_
        refine To.thenR ?_
        refine To.thenR ?_
        refine To.keep (kk := [2]) (kl := []) (K' := [(2, vi v3)]) (L' := []) (by kernel_rfl) (by kernel_rfl) ?_
        cases h
        exact hQ
      · replace h := if_f hb h
        refine Wp.skip ?_
        refine To.blockN ?_
        refine To.thenN ?_
        refine rg [0, 3] [] (K' := [(0, .str v0), (3, vi (IntKind.wrap .i64 (v3 + 1)))]) (L' := []) (by kernel_rfl) ?_
        refine To.keep (kk := [0, 3]) (kl := []) (K' := [(0, .str v0), (3, vi (IntKind.wrap .i64 (v3 + 1)))]) (L' := []) (by kernel_rfl) (by kernel_rfl) ?_
        refine To.again ?_
        exact ih (IntKind.wrap .i64 (v3 + 1)) _ h hQ
    · replace h := if_f hb h
      refine Wp.exit ?_
      refine To.thenX ?_
      refine To.thenX ?_
      refine To.keep (kk := []) (kl := []) (K' := []) (L' := []) (by kernel_rfl) (by kernel_rfl) ?_
      cases h
      exact hQ
def script_commandKind (n : Nat) (a0 : List UInt8) : Option (Int) :=
  (script_commandKind_l1 n a0 n 1).bind fun o1 =>
  (Sum.elim (fun o1 => some 0) (fun o1 => some o1)) o1
theorem ok_script_commandKind (n : Nat) (a0 : List UInt8) (r : Int) (h : script_commandKind n a0 = some r) : CallsX Tryd.prog 30 [.str a0] (vi r) := by
  unfold script_commandKind at h
  refine callsX_of (fn := Tryd.f30) (by kernel_rfl) rfl (by kernel_rfl) (Nat.le_of_ble_eq_true (by kernel_rfl)) fun F0 w0 _ => ?_
  refine Wp.keep (kk := [0]) (kl := []) (K' := [(0, .str a0)]) (L' := []) (by kernel_rfl) (by kernel_rfl) ?_
  refine Wp.seq ?_
  refine rg [0] [] (K' := [(0, .str a0)]) (L' := []) (by kernel_rfl) ?_
  refine To.thenN (Wp.seq (Wp.seq ?_))
  refine rg [0, 3] [] (K' := [(0, .str a0), (3, vi 1)]) (L' := []) (by kernel_rfl) ?_
  refine To.thenN (Wp.block ?_)
  obtain ⟨o1, ho1, h⟩ := bind_of h
  refine Wp.keep (kk := [0, 3]) (kl := []) (K' := [(0, .str a0), (3, vi 1)]) (L' := []) (by kernel_rfl) (by kernel_rfl) ?_
  refine Wp.loopL ?_
  refine ok_script_commandKind_l1 n a0 n 1 o1 ho1 ?_
  rcases o1 with o1 | o1
  · replace h := sum_l h
    refine To.blockX ?_
    refine To.thenN (Wp.seq ?_)
    refine rg [2] [] (K' := [(2, vi 0)]) (L' := []) (by kernel_rfl) ?_
    refine To.thenN ?_
    refine Wp.ret ?_
    refine To.keep (kk := [2]) (kl := []) (K' := [(2, vi 0)]) (L' := []) (by kernel_rfl) (by kernel_rfl) ?_
    cases h
    exact To.done hΓ (by kernel_rfl)
  · replace h := sum_r h
    refine To.blockR ?_
    refine To.thenR ?_
    refine To.keep (kk := [2]) (kl := []) (K' := [(2, vi o1)]) (L' := []) (by kernel_rfl) (by kernel_rfl) ?_
    cases h
    exact To.done hΓ (by kernel_rfl)
def digit_whole_j2 (n : Nat) (v0 : List UInt8) (v1 : Int) (v6 : Int) (v7 : Bool) (v23 : Int) (v24 : Int) : Option (Sum (Int × Bool) (Int × Int)) :=
  if (decide (0 ≤ v24 ∧ v24 < (List.length v0 : Int))) = true then (lett ((bif (decide ((IntKind.wrap .i64 ((IntKind.wrap .i64 ((((v0)[Int.toNat v24]?.getD 0).toNat : Int))) - 48)) < 0)) then true else (decide ((IntKind.wrap .i64 ((IntKind.wrap .i64 ((((v0)[Int.toNat v24]?.getD 0).toNat : Int))) - 48)) > 9))) : Bool) fun x2 =>
  if x2 = true then (some (.inr (0, 3)))
  else (if ((!(v7 == false) || (10 != 0))) = true then (lett ((bif (bif v7 then true else (decide (v6 > (IntKind.wrap .i64 (Int.tdiv (IntKind.wrap .i64 (v1 - (IntKind.wrap .i64 ((IntKind.wrap .i64 ((((v0)[Int.toNat v24]?.getD 0).toNat : Int))) - 48)))) 10))))) then true else (decide (v1 < (IntKind.wrap .i64 ((IntKind.wrap .i64 ((((v0)[Int.toNat v24]?.getD 0).toNat : Int))) - 48))))) : Bool) fun x3 =>
  if (!x3) = true then (lett ((IntKind.wrap .i64 ((IntKind.wrap .i64 (v6 * 10)) + (IntKind.wrap .i64 ((IntKind.wrap .i64 ((((v0)[Int.toNat v24]?.getD 0).toNat : Int))) - 48)))) : Int) fun x4 =>
  some (.inl (x4, x3)))
  else (some (.inl (v6, x3)))) else none)) else none
theorem ok_digit_whole_j2 (n : Nat) (v0 : List UInt8) (v1 : Int) (v6 : Int) (v7 : Bool) (v23 : Int) (v24 : Int) (o : Sum (Int × Bool) (Int × Int)) (h : digit_whole_j2 n v0 v1 v6 v7 v23 v24 = some o) {F0 : Fz} {w0 : Pt Tryd.prog} {Q : Exit → Act → World → Prop} (hQ : (Sum.elim (fun s => To 61 F0 w0 [(0, .str v0), (1, vi v1), (6, vi s.1), (7, vb s.2), (23, vi v23), (24, vi v24)] [] .normal Q) (fun s => To 61 F0 w0 [(4, vi s.1), (5, vi s.2)] [] .ret Q)) o) : Wp Tryd.prog 61 F0 w0 [(0, .str v0), (1, vi v1), (6, vi v6), (7, vb v7), (23, vi v23), (24, vi v24)] [] (cA (cB (cB (cI (cI (cB (cA (cB (cB (cB (cF Tryd.f75))))))))))) Q := by
  unfold digit_whole_j2 at h
  refine Wp.block (Wp.seq ?_)
  refine rg [0, 1, 6, 7, 8, 23, 24] [] (K' := [(0, .str v0), (1, vi v1), (6, vi v6), (7, vb v7), (8, vi v24), (23, vi v23), (24, vi v24)]) (L' := []) (by kernel_rfl) ?_
  refine To.thenN (Wp.seq ?_)
  obtain ⟨hc6, h⟩ := chk_of h
  refine Wp.region hΓ [] [] [] [0, 1, 6, 7, 9, 23, 24] [] (K' := [(0, .str v0), (1, vi v1), (6, vi v6), (7, vb v7), (9, vi (IntKind.wrap .i64 ((IntKind.wrap .i64 ((((v0)[Int.toNat v24]?.getD 0).toNat : Int))) - 48))), (23, vi v23), (24, vi v24)]) (L' := []) (ob := [(decide (0 ≤ v24 ∧ v24 < (List.length v0 : Int))) = true]) (by kernel_rfl) (AllP.cons hc6 AllP.nil) ?_
  refine To.thenN (Wp.seq (Wp.seq ?_))
  obtain ⟨x2, hx2, h⟩ := lett_of h
  refine rg [0, 1, 6, 7, 9, 23, 24, 37] [] (K' := [(0, .str v0), (1, vi v1), (6, vi v6), (7, vb v7), (9, vi (IntKind.wrap .i64 ((IntKind.wrap .i64 ((((v0)[Int.toNat v24]?.getD 0).toNat : Int))) - 48))), (23, vi v23), (24, vi v24), (37, vb (bif (decide ((IntKind.wrap .i64 ((IntKind.wrap .i64 ((((v0)[Int.toNat v24]?.getD 0).toNat : Int))) - 48)) < 0)) then true else (decide ((IntKind.wrap .i64 ((IntKind.wrap .i64 ((((v0)[Int.toNat v24]?.getD 0).toNat : Int))) - 48)) > 9))))]) (L' := []) (by kernel_rfl) ?_
  refine To.eq (K' := [(0, .str v0), (1, vi v1), (6, vi v6), (7, vb v7), (9, vi (IntKind.wrap .i64 ((IntKind.wrap .i64 ((((v0)[Int.toNat v24]?.getD 0).toNat : Int))) - 48))), (23, vi v23), (24, vi v24), (37, vb x2)]) (L' := []) (by cases hx2; rfl) (by cases hx2; rfl) ?_
  refine To.thenN ?_
  refine Wp.cond (b := x2) (by kernel_rfl) (fun hb => ?_) (fun hb => ?_)
  · replace h := if_t hb h
    refine Wp.seq ?_
    refine rg [4, 5] [] (K' := [(4, vi 0), (5, vi 3)]) (L' := []) (by kernel_rfl) ?_
    refine To.thenN ?_
    refine Wp.ret ?_
    refine To.thenR ?_
    refine To.blockR ?_
    refine To.keep (kk := [4, 5]) (kl := []) (K' := [(4, vi 0), (5, vi 3)]) (L' := []) (by kernel_rfl) (by kernel_rfl) ?_
    cases h
    exact hQ
  · replace h := if_f hb h
    refine Wp.skip (To.thenN (Wp.seq ?_))
    obtain ⟨hc5, h⟩ := chk_of h
    obtain ⟨x3, hx3, h⟩ := lett_of h
    refine Wp.region hΓ [] [] [] [0, 1, 6, 7, 9, 23, 24] [] (K' := [(0, .str v0), (1, vi v1), (6, vi v6), (7, vb (bif (bif v7 then true else (decide (v6 > (IntKind.wrap .i64 (Int.tdiv (IntKind.wrap .i64 (v1 - (IntKind.wrap .i64 ((IntKind.wrap .i64 ((((v0)[Int.toNat v24]?.getD 0).toNat : Int))) - 48)))) 10))))) then true else (decide (v1 < (IntKind.wrap .i64 ((IntKind.wrap .i64 ((((v0)[Int.toNat v24]?.getD 0).toNat : Int))) - 48)))))), (9, vi (IntKind.wrap .i64 ((IntKind.wrap .i64 ((((v0)[Int.toNat v24]?.getD 0).toNat : Int))) - 48))), (23, vi v23), (24, vi v24)]) (L' := []) (ob := [(!(v7 == false) || (10 != 0)) = true]) (by kernel_rfl) (AllP.cons hc5 AllP.nil) ?_
    refine To.eq (K' := [(0, .str v0), (1, vi v1), (6, vi v6), (7, vb x3), (9, vi (IntKind.wrap .i64 ((IntKind.wrap .i64 ((((v0)[Int.toNat v24]?.getD 0).toNat : Int))) - 48))), (23, vi v23), (24, vi v24)]) (L' := []) (by cases hx3; rfl) (by cases hx3; rfl) ?_
    refine To.thenN (Wp.seq ?_)
    refine rg [0, 1, 6, 7, 9, 23, 24, 53] [] (K' := [(0, .str v0), (1, vi v1), (6, vi v6), (7, vb x3), (9, vi (IntKind.wrap .i64 ((IntKind.wrap .i64 ((((v0)[Int.toNat v24]?.getD 0).toNat : Int))) - 48))), (23, vi v23), (24, vi v24), (53, vb (!x3))]) (L' := []) (by kernel_rfl) ?_
    refine To.thenN ?_
    refine Wp.cond (b := (!x3)) (by kernel_rfl) (fun hb => ?_) (fun hb => ?_)
    · replace h := if_t hb h
      obtain ⟨x4, hx4, h⟩ := lett_of h
      refine rg [0, 1, 6, 7, 23, 24] [] (K' := [(0, .str v0), (1, vi v1), (6, vi (IntKind.wrap .i64 ((IntKind.wrap .i64 (v6 * 10)) + (IntKind.wrap .i64 ((IntKind.wrap .i64 ((((v0)[Int.toNat v24]?.getD 0).toNat : Int))) - 48))))), (7, vb x3), (23, vi v23), (24, vi v24)]) (L' := []) (by kernel_rfl) ?_
      refine To.eq (K' := [(0, .str v0), (1, vi v1), (6, vi x4), (7, vb x3), (23, vi v23), (24, vi v24)]) (L' := []) (by cases hx4; rfl) (by cases hx4; rfl) ?_
      refine To.blockN ?_
      refine To.keep (kk := [0, 1, 6, 7, 23, 24]) (kl := []) (K' := [(0, .str v0), (1, vi v1), (6, vi x4), (7, vb x3), (23, vi v23), (24, vi v24)]) (L' := []) (by kernel_rfl) (by kernel_rfl) ?_
      cases h
      exact hQ
    · replace h := if_f hb h
      refine Wp.skip ?_
      refine To.blockN ?_
      refine To.keep (kk := [0, 1, 6, 7, 23, 24]) (kl := []) (K' := [(0, .str v0), (1, vi v1), (6, vi v6), (7, vb x3), (23, vi v23), (24, vi v24)]) (L' := []) (by kernel_rfl) (by kernel_rfl) ?_
      cases h
      exact hQ
def digit_whole_l1 (n : Nat) (v0 : List UInt8) (v1 : Int) (v23 : Int) : Nat → Int → Bool → Int → Option (Sum (Int × Bool) (Int × Int))
  | 0, _, _, _ => none
  | k + 1, v6, v7, v24 => if (decide (v24 < v23)) = true then ((digit_whole_j2 n v0 v1 v6 v7 v23 v24).bind fun o2 =>
  (Sum.elim (fun o2 => digit_whole_l1 n v0 v1 v23 k o2.1 o2.2 (IntKind.wrap .i64 (v24 + 1))) (fun o2 => some (.inr (o2.1, o2.2)))) o2)
  else (some (.inl (v6, v7)))
theorem ok_digit_whole_l1 (n : Nat) (v0 : List UInt8) (v1 : Int) (v23 : Int) {F0 : Fz} {w0 : Pt Tryd.prog} {Q : Exit → Act → World → Prop} (k : Nat) : ∀ (v6 : Int) (v7 : Bool) (v24 : Int) (o : Sum (Int × Bool) (Int × Int)), digit_whole_l1 n v0 v1 v23 k v6 v7 v24 = some o → (Sum.elim (fun s => To 61 F0 w0 [(6, vi s.1), (7, vb s.2)] [] (.exit 0) Q) (fun s => To 61 F0 w0 [(4, vi s.1), (5, vi s.2)] [] .ret Q)) o → WL Tryd.prog 61 F0 w0 [(0, .str v0), (1, vi v1), (6, vi v6), (7, vb v7), (23, vi v23), (24, vi v24)] [] (cI (cI (cB (cA (cB (cB (cB (cF Tryd.f75)))))))) Q := by
  induction k with
  | zero => intro v6 v7 v24 o h; cases h
  | succ k ih =>
    intro v6 v7 v24 o h hQ
    rw [digit_whole_l1] at h
    refine WL.round ?_
    refine Wp.seq ?_
    refine rg [0, 1, 6, 7, 23, 24, 25] [] (K' := [(0, .str v0), (1, vi v1), (6, vi v6), (7, vb v7), (23, vi v23), (24, vi v24), (25, vb (decide (v24 < v23)))]) (L' := []) (by kernel_rfl) ?_
    refine To.thenN (Wp.seq ?_)
    refine Wp.cond (b := (decide (v24 < v23))) (by kernel_rfl) (fun hb => ?_) (fun hb => ?_)
    · replace h := if_t hb h
      refine Wp.skip (To.thenN (Wp.seq ?_))
      obtain ⟨o2, ho2, h⟩ := bind_of h
      refine Wp.keep (kk := [0, 1, 6, 7, 23, 24]) (kl := []) (K' := [(0, .str v0), (1, vi v1), (6, vi v6), (7, vb v7), (23, vi v23), (24, vi v24)]) (L' := []) (by kernel_rfl) (by kernel_rfl) ?_
      refine ok_digit_whole_j2 n v0 v1 v6 v7 v23 v24 o2 ho2 ?_
      rcases o2 with o2 | o2
      · replace h := sum_l h
        refine To.thenN ?_
        refine rg [0, 1, 6, 7, 23, 24] [] (K' := [(0, .str v0), (1, vi v1), (6, vi o2.1), (7, vb o2.2), (23, vi v23), (24, vi (IntKind.wrap .i64 (v24 + 1)))]) (L' := []) (by kernel_rfl) ?_
        refine To.keep (kk := [0, 1, 6, 7, 23, 24]) (kl := []) (K' := [(0, .str v0), (1, vi v1), (6, vi o2.1), (7, vb o2.2), (23, vi v23), (24, vi (IntKind.wrap .i64 (v24 + 1)))]) (L' := []) (by kernel_rfl) (by kernel_rfl) ?_
        refine To.again ?_
        exact ih o2.1 o2.2 (IntKind.wrap .i64 (v24 + 1)) _ h hQ
      · replace h := sum_r h
        refine To.thenR ?_
        refine To.thenR ?_
        refine To.keep (kk := [4, 5]) (kl := []) (K' := [(4, vi o2.1), (5, vi o2.2)]) (L' := []) (by kernel_rfl) (by kernel_rfl) ?_
        cases h
        exact hQ
    · replace h := if_f hb h
      refine Wp.exit ?_
      refine To.thenX ?_
      refine To.thenX ?_
      refine To.keep (kk := [6, 7]) (kl := []) (K' := [(6, vi v6), (7, vb v7)]) (L' := []) (by kernel_rfl) (by kernel_rfl) ?_
      cases h
      exact hQ
def digit_whole (n : Nat) (a0 : List UInt8) (a1 : Int) : Option (Int × Int) :=
  if ((!(((decide ((List.length a0 : Int) > 1)) == true) && ((a0 == []) == false)) || decide (0 ≤ (0 : Int) ∧ (0 : Int) < (List.length a0 : Int)))) = true then (lett ((bif (a0 == []) then true else (bif (decide ((List.length a0 : Int) > 1)) then ((((a0)[Int.toNat 0]?.getD 0).toNat : Int) == 48) else false)) : Bool) fun x1 =>
  if x1 = true then (some (0, 3))
  else ((digit_whole_l1 n a0 a1 (List.length a0 : Int) n 0 false 0).bind fun o2 =>
  (Sum.elim (fun o2 => if o2.2 = true then (some (0, 9))
  else (some (o2.1, 0))) (fun o2 => some (o2.1, o2.2))) o2)) else none
theorem ok_digit_whole (n : Nat) (a0 : List UInt8) (a1 : Int) (r : Int × Int) (h : digit_whole n a0 a1 = some r) : CallsX Tryd.prog 75 [.str a0, vi a1] (.tup [vi r.1, vi r.2]) := by
  unfold digit_whole at h
  refine callsX_of (fn := Tryd.f75) (by kernel_rfl) rfl (by kernel_rfl) (Nat.le_of_ble_eq_true (by kernel_rfl)) fun F0 w0 _ => ?_
  refine Wp.keep (kk := [0, 1]) (kl := []) (K' := [(0, .str a0), (1, vi a1)]) (L' := []) (by kernel_rfl) (by kernel_rfl) ?_
  refine Wp.seq ?_
  refine rg [0, 1] [] (K' := [(0, .str a0), (1, vi a1)]) (L' := []) (by kernel_rfl) ?_
  refine To.thenN (Wp.seq (Wp.seq ?_))
  obtain ⟨hc3, h⟩ := chk_of h
  obtain ⟨x1, hx1, h⟩ := lett_of h
  refine Wp.region hΓ [] [] [] [0, 1, 21] [] (K' := [(0, .str a0), (1, vi a1), (21, vb (bif (a0 == []) then true else (bif (decide ((List.length a0 : Int) > 1)) then ((((a0)[Int.toNat 0]?.getD 0).toNat : Int) == 48) else false)))]) (L' := []) (ob := [(!(((decide ((List.length a0 : Int) > 1)) == true) && ((a0 == []) == false)) || decide (0 ≤ (0 : Int) ∧ (0 : Int) < (List.length a0 : Int))) = true]) (by kernel_rfl) (AllP.cons hc3 AllP.nil) ?_
  refine To.eq (K' := [(0, .str a0), (1, vi a1), (21, vb x1)]) (L' := []) (by cases hx1; rfl) (by cases hx1; rfl) ?_
  refine To.thenN ?_
  refine Wp.cond (b := x1) (by kernel_rfl) (fun hb => ?_) (fun hb => ?_)
  · replace h := if_t hb h
    refine Wp.seq ?_
    refine rg [4, 5] [] (K' := [(4, vi 0), (5, vi 3)]) (L' := []) (by kernel_rfl) ?_
    refine To.thenN ?_
    refine Wp.ret ?_
    refine To.thenR ?_
    refine To.keep (kk := [4, 5]) (kl := []) (K' := [(4, vi 0), (5, vi 3)]) (L' := []) (by kernel_rfl) (by kernel_rfl) ?_
    cases h
    exact To.done hΓ (by kernel_rfl)
  · replace h := if_f hb h
    refine Wp.skip (To.thenN (Wp.seq ?_))
    refine rg [0, 1, 6, 7] [] (K' := [(0, .str a0), (1, vi a1), (6, vi 0), (7, vb false)]) (L' := []) (by kernel_rfl) ?_
    refine To.thenN (Wp.seq (Wp.seq ?_))
    refine rg [0, 1, 6, 7, 23, 24] [] (K' := [(0, .str a0), (1, vi a1), (6, vi 0), (7, vb false), (23, vi (List.length a0 : Int)), (24, vi 0)]) (L' := []) (by kernel_rfl) ?_
    refine To.thenN (Wp.block ?_)
    obtain ⟨o2, ho2, h⟩ := bind_of h
    refine Wp.keep (kk := [0, 1, 6, 7, 23, 24]) (kl := []) (K' := [(0, .str a0), (1, vi a1), (6, vi 0), (7, vb false), (23, vi (List.length a0 : Int)), (24, vi 0)]) (L' := []) (by kernel_rfl) (by kernel_rfl) ?_
    refine Wp.loopL ?_
    refine ok_digit_whole_l1 n a0 a1 (List.length a0 : Int) n 0 false 0 o2 ho2 ?_
    rcases o2 with o2 | o2
    · replace h := sum_l h
      refine To.blockX ?_
      refine To.thenN (Wp.seq (Wp.seq ?_))
      refine rg [6, 59] [] (K' := [(6, vi o2.1), (59, vb o2.2)]) (L' := []) (by kernel_rfl) ?_
      refine To.thenN ?_
      refine Wp.cond (b := o2.2) (by kernel_rfl) (fun hb => ?_) (fun hb => ?_)
      · replace h := if_t hb h
        refine Wp.seq ?_
        refine rg [4, 5] [] (K' := [(4, vi 0), (5, vi 9)]) (L' := []) (by kernel_rfl) ?_
        refine To.thenN ?_
        refine Wp.ret ?_
        refine To.thenR ?_
        refine To.keep (kk := [4, 5]) (kl := []) (K' := [(4, vi 0), (5, vi 9)]) (L' := []) (by kernel_rfl) (by kernel_rfl) ?_
        cases h
        exact To.done hΓ (by kernel_rfl)
      · replace h := if_f hb h
        refine Wp.skip (To.thenN (Wp.seq ?_))
        refine rg [4, 5] [] (K' := [(4, vi o2.1), (5, vi 0)]) (L' := []) (by kernel_rfl) ?_
        refine To.thenN ?_
        refine Wp.ret ?_
        refine To.keep (kk := [4, 5]) (kl := []) (K' := [(4, vi o2.1), (5, vi 0)]) (L' := []) (by kernel_rfl) (by kernel_rfl) ?_
        cases h
        exact To.done hΓ (by kernel_rfl)
    · replace h := sum_r h
      refine To.blockR ?_
      refine To.thenR ?_
      refine To.keep (kk := [4, 5]) (kl := []) (K' := [(4, vi o2.1), (5, vi o2.2)]) (L' := []) (by kernel_rfl) (by kernel_rfl) ?_
      cases h
      exact To.done hΓ (by kernel_rfl)
def digit_Count (n : Nat) (a0 : List UInt8) (a1 : Int) : Option (Int × Int) :=
  if (decide (a1 < 0)) = true then (some (0, 2))
  else ((digit_whole n a0 a1).bind fun r1 =>
  some (r1.1, r1.2))
theorem ok_digit_Count (n : Nat) (a0 : List UInt8) (a1 : Int) (r : Int × Int) (h : digit_Count n a0 a1 = some r) : CallsX Tryd.prog 54 [.str a0, vi a1] (.tup [vi r.1, vi r.2]) := by
  unfold digit_Count at h
  refine callsX_of (fn := Tryd.f54) (by kernel_rfl) rfl (by kernel_rfl) (Nat.le_of_ble_eq_true (by kernel_rfl)) fun F0 w0 _ => ?_
  refine Wp.keep (kk := [0, 1]) (kl := []) (K' := [(0, .str a0), (1, vi a1)]) (L' := []) (by kernel_rfl) (by kernel_rfl) ?_
  refine Wp.seq ?_
  refine rg [0, 1] [] (K' := [(0, .str a0), (1, vi a1)]) (L' := []) (by kernel_rfl) ?_
  refine To.thenN (Wp.seq (Wp.seq ?_))
  refine rg [0, 1, 7] [] (K' := [(0, .str a0), (1, vi a1), (7, vb (decide (a1 < 0)))]) (L' := []) (by kernel_rfl) ?_
  refine To.thenN ?_
  refine Wp.cond (b := (decide (a1 < 0))) (by kernel_rfl) (fun hb => ?_) (fun hb => ?_)
  · replace h := if_t hb h
    refine Wp.seq ?_
    refine rg [4, 5] [] (K' := [(4, vi 0), (5, vi 2)]) (L' := []) (by kernel_rfl) ?_
    refine To.thenN ?_
    refine Wp.ret ?_
    refine To.thenR ?_
    refine To.keep (kk := [4, 5]) (kl := []) (K' := [(4, vi 0), (5, vi 2)]) (L' := []) (by kernel_rfl) (by kernel_rfl) ?_
    cases h
    exact To.done hΓ (by kernel_rfl)
  · replace h := if_f hb h
    refine Wp.skip (To.thenN (Wp.seq ?_))
    obtain ⟨r1, hr1, h⟩ := bind_of h
    refine Wp.region hΓ [] [(2, .tup [vi r1.1, vi r1.2])] [] [4, 5] [] (K' := [(4, vi r1.1), (5, vi r1.2)]) (L' := []) (ob := [(true = true → CX Tryd.prog 75 [.str a0, vi a1] (.tup [vi r1.1, vi r1.2]))]) (by kernel_rfl) (AllP.cons (fun _ => cx (ok_digit_whole n a0 a1 _ hr1)) AllP.nil) ?_
    refine To.thenN ?_
    refine Wp.ret ?_
    refine To.keep (kk := [4, 5]) (kl := []) (K' := [(4, vi r1.1), (5, vi r1.2)]) (L' := []) (by kernel_rfl) (by kernel_rfl) ?_
    cases h
    exact To.done hΓ (by kernel_rfl)
def script_words_number__o0 (n : Nat) (h0 : S_script_words) : Option (Int × S_script_words) :=
  (script_words_next__o0 n h0).bind fun r1 =>
  (digit_Count n r1.1 1099511627776).bind fun r2 =>
  some (r2.1, (S_script_words.mk r1.2.f_l (bif r1.2.f_bad then true else (r2.2 != 0))))
theorem ok_script_words_number__o0 (n : Nat) (h0 : S_script_words) (r : Int × S_script_words) (h : script_words_number__o0 n h0 = some r) : CallsB Tryd.prog 32 [.own 1000000 0] [(1000000, 72, [ls h0.f_l, vb h0.f_bad])] (vi r.1) [(1000000, 72, [ls r.2.f_l, vb r.2.f_bad])] := by
  unfold script_words_number__o0 at h
  refine callsB_of (fn := Tryd.f32) (by kernel_rfl) rfl (by kernel_rfl) (Nat.le_of_ble_eq_true (by kernel_rfl)) fun F0 w0 => ?_
  refine Wp.keep (kk := [0]) (kl := [1000000]) (K' := [(0, .own 1000000 0)]) (L' := [(1000000, 72, [ls h0.f_l, vb h0.f_bad])]) (by kernel_rfl) (by kernel_rfl) ?_
  refine Wp.seq ?_
  refine rg [0] [1000000] (K' := [(0, .own 1000000 0)]) (L' := [(1000000, 72, [ls h0.f_l, vb h0.f_bad])]) (by kernel_rfl) ?_
  refine To.thenN (Wp.seq ?_)
  obtain ⟨r1, hr1, h⟩ := bind_of h
  obtain ⟨r2, hr2, h⟩ := bind_of h
  refine Wp.region hΓ [] [(2, .tup [vi r2.1, vi r2.2])] [(1, ⟨[(1000000, 1000000)], [(1000000, 1000000)], [.own 1000000 0], [(1000000, 72, [ls h0.f_l, vb h0.f_bad])], .str r1.1, [(1000000, 72, [ls r1.2.f_l, vb r1.2.f_bad])]⟩)] [0, 3, 4] [1000000] (K' := [(0, .own 1000000 0), (3, vi r2.1), (4, vi r2.2)]) (L' := [(1000000, 72, [ls r1.2.f_l, vb r1.2.f_bad])]) (ob := [CbOb (CallsB Tryd.prog) 29 [.own 1000000 0] [some (72, [ls h0.f_l, vb h0.f_bad])] ⟨[(1000000, 1000000)], [(1000000, 1000000)], [.own 1000000 0], [(1000000, 72, [ls h0.f_l, vb h0.f_bad])], .str r1.1, [(1000000, 72, [ls r1.2.f_l, vb r1.2.f_bad])]⟩, (true = true → CX Tryd.prog 54 [.str r1.1, vi 1099511627776] (.tup [vi r2.1, vi r2.2]))]) (by kernel_rfl) (AllP.cons (⟨(ok_script_words_next__o0 n h0 _ hr1), by kernel_rfl, by kernel_rfl⟩) (AllP.cons (fun _ => cx (ok_digit_Count n r1.1 1099511627776 _ hr2)) AllP.nil)) ?_
  refine To.thenN (Wp.seq ?_)
  refine rg [3] [1000000] (K' := [(3, vi r2.1)]) (L' := [(1000000, 72, [ls r1.2.f_l, vb (bif r1.2.f_bad then true else (r2.2 != 0))])]) (by kernel_rfl) ?_
  refine To.thenN (Wp.seq ?_)
  refine rg [2] [1000000] (K' := [(2, vi r2.1)]) (L' := [(1000000, 72, [ls r1.2.f_l, vb (bif r1.2.f_bad then true else (r2.2 != 0))])]) (by kernel_rfl) ?_
  refine To.thenN ?_
  refine Wp.ret ?_
  refine To.keep (kk := [2]) (kl := [1000000]) (K' := [(2, vi r2.1)]) (L' := [(1000000, 72, [ls r1.2.f_l, vb (bif r1.2.f_bad then true else (r2.2 != 0))])]) (by kernel_rfl) (by kernel_rfl) ?_
  cases h
  exact To.doneB hΓ [1000000] (by kernel_rfl) (by kernel_rfl)
def name_small (a0 : Int) : Bool :=
  (bif (decide (a0 ≥ 97)) then (decide (a0 ≤ 122)) else false)
theorem ok_name_small (a0 : Int) (r : Bool) (h : name_small a0 = r) : CallsX Tryd.prog 85 [.val (.int .u8 a0)] (vb r) := by
  unfold name_small at h
  refine callsX_of (fn := Tryd.f85) (by kernel_rfl) rfl (by kernel_rfl) (Nat.le_of_ble_eq_true (by kernel_rfl)) fun F0 w0 _ => ?_
  refine Wp.keep (kk := [0]) (kl := []) (K' := [(0, .val (.int .u8 a0))]) (L' := []) (by kernel_rfl) (by kernel_rfl) ?_
  refine Wp.seq ?_
  refine rg [0] [] (K' := [(0, .val (.int .u8 a0))]) (L' := []) (by kernel_rfl) ?_
  refine To.thenN (Wp.seq ?_)
  refine rg [2] [] (K' := [(2, vb (bif (decide (a0 ≥ 97)) then (decide (a0 ≤ 122)) else false))]) (L' := []) (by kernel_rfl) ?_
  refine To.thenN ?_
  refine Wp.ret ?_
  refine To.keep (kk := [2]) (kl := []) (K' := [(2, vb (bif (decide (a0 ≥ 97)) then (decide (a0 ≤ 122)) else false))]) (L' := []) (by kernel_rfl) (by kernel_rfl) ?_
  cases h
  exact To.done hΓ (by kernel_rfl)
def name_letter (a0 : Int) : Bool :=
  (bif (name_small a0) then true else (bif (decide (a0 ≥ 65)) then (decide (a0 ≤ 90)) else false))
theorem ok_name_letter (a0 : Int) (r : Bool) (h : name_letter a0 = r) : CallsX Tryd.prog 72 [.val (.int .u8 a0)] (vb r) := by
  unfold name_letter at h
  refine callsX_of (fn := Tryd.f72) (by kernel_rfl) rfl (by kernel_rfl) (Nat.le_of_ble_eq_true (by kernel_rfl)) fun F0 w0 _ => ?_
  refine Wp.keep (kk := [0]) (kl := []) (K' := [(0, .val (.int .u8 a0))]) (L' := []) (by kernel_rfl) (by kernel_rfl) ?_
  refine Wp.seq ?_
  refine rg [0] [] (K' := [(0, .val (.int .u8 a0))]) (L' := []) (by kernel_rfl) ?_
  refine To.thenN (Wp.seq ?_)
  refine Wp.region hΓ [] [(1, vb (name_small a0))] [] [2] [] (K' := [(2, vb (bif (name_small a0) then true else (bif (decide (a0 ≥ 65)) then (decide (a0 ≤ 90)) else false)))]) (L' := []) (ob := [(true = true → CX Tryd.prog 85 [.val (.int .u8 a0)] (vb (name_small a0)))]) (by kernel_rfl) (AllP.cons (fun _ => cx (ok_name_small a0 _ rfl)) AllP.nil) ?_
  refine To.thenN ?_
  refine Wp.ret ?_
  refine To.keep (kk := [2]) (kl := []) (K' := [(2, vb (bif (name_small a0) then true else (bif (decide (a0 ≥ 65)) then (decide (a0 ≤ 90)) else false)))]) (L' := []) (by kernel_rfl) (by kernel_rfl) ?_
  cases h
  exact To.done hΓ (by kernel_rfl)
def name_number (a0 : Int) : Bool :=
  (bif (decide (a0 ≥ 48)) then (decide (a0 ≤ 57)) else false)
theorem ok_name_number (a0 : Int) (r : Bool) (h : name_number a0 = r) : CallsX Tryd.prog 73 [.val (.int .u8 a0)] (vb r) := by
  unfold name_number at h
  refine callsX_of (fn := Tryd.f73) (by kernel_rfl) rfl (by kernel_rfl) (Nat.le_of_ble_eq_true (by kernel_rfl)) fun F0 w0 _ => ?_
  refine Wp.keep (kk := [0]) (kl := []) (K' := [(0, .val (.int .u8 a0))]) (L' := []) (by kernel_rfl) (by kernel_rfl) ?_
  refine Wp.seq ?_
  refine rg [0] [] (K' := [(0, .val (.int .u8 a0))]) (L' := []) (by kernel_rfl) ?_
  refine To.thenN (Wp.seq ?_)
  refine rg [2] [] (K' := [(2, vb (bif (decide (a0 ≥ 48)) then (decide (a0 ≤ 57)) else false))]) (L' := []) (by kernel_rfl) ?_
  refine To.thenN ?_
  refine Wp.ret ?_
  refine To.keep (kk := [2]) (kl := []) (K' := [(2, vb (bif (decide (a0 ≥ 48)) then (decide (a0 ≤ 57)) else false))]) (L' := []) (by kernel_rfl) (by kernel_rfl) ?_
  cases h
  exact To.done hΓ (by kernel_rfl)
def name_Service_1 (a0 : Int) : Bool :=
  (bif (name_letter a0) then true else (name_number a0))
theorem ok_name_Service_1 (a0 : Int) (r : Bool) (h : name_Service_1 a0 = r) : CallsX Tryd.prog 71 [.val (.int .u8 a0)] (vb r) := by
  unfold name_Service_1 at h
  refine callsX_of (fn := Tryd.f71) (by kernel_rfl) rfl (by kernel_rfl) (Nat.le_of_ble_eq_true (by kernel_rfl)) fun F0 w0 _ => ?_
  refine Wp.keep (kk := [0]) (kl := []) (K' := [(0, .val (.int .u8 a0))]) (L' := []) (by kernel_rfl) (by kernel_rfl) ?_
  refine Wp.seq ?_
  refine rg [0] [] (K' := [(0, .val (.int .u8 a0))]) (L' := []) (by kernel_rfl) ?_
  refine To.thenN (Wp.seq ?_)
  refine Wp.region hΓ [] [(1, vb (name_letter a0)), (4, vb (name_number a0))] [] [2] [] (K' := [(2, vb (bif (name_letter a0) then true else (name_number a0)))]) (L' := []) (ob := [(true = true → CX Tryd.prog 72 [.val (.int .u8 a0)] (vb (name_letter a0))), (((name_letter a0) == false) = true → CX Tryd.prog 73 [.val (.int .u8 a0)] (vb (name_number a0)))]) (by kernel_rfl) (AllP.cons (fun _ => cx (ok_name_letter a0 _ rfl)) (AllP.cons (fun _ => cx (ok_name_number a0 _ rfl)) AllP.nil)) ?_
  refine To.thenN ?_
  refine Wp.ret ?_
  refine To.keep (kk := [2]) (kl := []) (K' := [(2, vb (bif (name_letter a0) then true else (name_number a0)))]) (L' := []) (by kernel_rfl) (by kernel_rfl) ?_
  cases h
  exact To.done hΓ (by kernel_rfl)
def name_Service_2 (a0 : Int) : Bool :=
  lett ((bif (bif (bif (bif (name_letter a0) then true else (name_number a0)) then true else (a0 == 45)) then true else (a0 == 95)) then true else (a0 == 46)) : Bool) fun x1 =>
  x1
theorem ok_name_Service_2 (a0 : Int) (r : Bool) (h : name_Service_2 a0 = r) : CallsX Tryd.prog 74 [.val (.int .u8 a0)] (vb r) := by
  unfold name_Service_2 at h
  refine callsX_of (fn := Tryd.f74) (by kernel_rfl) rfl (by kernel_rfl) (Nat.le_of_ble_eq_true (by kernel_rfl)) fun F0 w0 _ => ?_
  refine Wp.keep (kk := [0]) (kl := []) (K' := [(0, .val (.int .u8 a0))]) (L' := []) (by kernel_rfl) (by kernel_rfl) ?_
  refine Wp.seq ?_
  refine rg [0] [] (K' := [(0, .val (.int .u8 a0))]) (L' := []) (by kernel_rfl) ?_
  refine To.thenN (Wp.seq ?_)
  obtain ⟨x1, hx1, h⟩ := lett_of h
  refine Wp.region hΓ [] [(1, vb (name_letter a0)), (4, vb (name_number a0))] [] [2] [] (K' := [(2, vb (bif (bif (bif (bif (name_letter a0) then true else (name_number a0)) then true else (a0 == 45)) then true else (a0 == 95)) then true else (a0 == 46)))]) (L' := []) (ob := [(true = true → CX Tryd.prog 72 [.val (.int .u8 a0)] (vb (name_letter a0))), (((name_letter a0) == false) = true → CX Tryd.prog 73 [.val (.int .u8 a0)] (vb (name_number a0)))]) (by kernel_rfl) (AllP.cons (fun _ => cx (ok_name_letter a0 _ rfl)) (AllP.cons (fun _ => cx (ok_name_number a0 _ rfl)) AllP.nil)) ?_
  refine To.eq (K' := [(2, vb x1)]) (L' := []) (by cases hx1; rfl) (by cases hx1; rfl) ?_
  refine To.thenN ?_
  refine Wp.ret ?_
  refine To.keep (kk := [2]) (kl := []) (K' := [(2, vb x1)]) (L' := []) (by kernel_rfl) (by kernel_rfl) ?_
  cases h
  exact To.done hΓ (by kernel_rfl)
def name_of__name_Service_1__name_Service_2_l1 (n : Nat) (v0 : List UInt8) : Nat → Int → Option (Sum (Unit) (Bool))
  | 0, _ => none
  | k + 1, v7 => if (decide (v7 < (List.length v0 : Int))) = true then (if (decide (0 ≤ v7 ∧ v7 < (List.length v0 : Int))) = true then (if (!(name_Service_2 (((v0)[Int.toNat v7]?.getD 0).toNat : Int))) = true then (some (.inr false))
  else (name_of__name_Service_1__name_Service_2_l1 n v0 k (IntKind.wrap .i64 (v7 + 1)))) else none)
  else (some (.inl ()))
theorem ok_name_of__name_Service_1__name_Service_2_l1 (n : Nat) (v0 : List UInt8) {F0 : Fz} {w0 : Pt Tryd.prog} {Q : Exit → Act → World → Prop} (k : Nat) : ∀ (v7 : Int) (o : Sum (Unit) (Bool)), name_of__name_Service_1__name_Service_2_l1 n v0 k v7 = some o → (Sum.elim (fun s => To 35 F0 w0 [] [] (.exit 0) Q) (fun s => To 35 F0 w0 [(6, vb s)] [] .ret Q)) o → WL Tryd.prog 35 F0 w0 [(0, .str v0), (2, .fn 74 []), (7, vi v7)] [] (cI (cI (cB (cA (cB (cB (cF Tryd.f70))))))) Q := by
  induction k with
  | zero => intro v7 o h; cases h
  | succ k ih =>
    intro v7 o h hQ
    rw [name_of__name_Service_1__name_Service_2_l1] at h
    refine WL.round ?_
    refine Wp.seq (Wp.seq ?_)
    refine rg [0, 2, 7, 26] [] (K' := [(0, .str v0), (2, .fn 74 []), (7, vi v7), (26, vb (decide (v7 < (List.length v0 : Int))))]) (L' := []) (by kernel_rfl) ?_
    refine To.thenN ?_
    refine Wp.cond (b := (decide (v7 < (List.length v0 : Int)))) (by kernel_rfl) (fun hb => ?_) (fun hb => ?_)
    · replace h := if_t hb h
      refine Wp.skip (To.thenN (Wp.seq (Wp.block (Wp.seq ?_))))
      obtain ⟨hc2, h⟩ := chk_of h
      refine Wp.region hΓ [] [(4, vb (name_Service_2 (((v0)[Int.toNat v7]?.getD 0).toNat : Int)))] [] [0, 2, 7, 34] [] (K' := [(0, .str v0), (2, .fn 74 []), (7, vi v7), (34, vb (!(name_Service_2 (((v0)[Int.toNat v7]?.getD 0).toNat : Int))))]) (L' := []) (ob := [(decide (0 ≤ v7 ∧ v7 < (List.length v0 : Int))) = true, (true = true → CX Tryd.prog 74 [.val (.int .u8 (((v0)[Int.toNat v7]?.getD 0).toNat : Int))] (vb (name_Service_2 (((v0)[Int.toNat v7]?.getD 0).toNat : Int))))]) (by kernel_rfl) (AllP.cons hc2 (AllP.cons (fun _ => cx (ok_name_Service_2 (((v0)[Int.toNat v7]?.getD 0).toNat : Int) _ rfl)) AllP.nil)) ?_
      refine To.thenN ?_
      refine Wp.cond (b := (!(name_Service_2 (((v0)[Int.toNat v7]?.getD 0).toNat : Int)))) (by kernel_rfl) (fun hb => ?_) (fun hb => ?_)
      · replace h := if_t hb h
        refine Wp.seq ?_
        refine rg [6] [] (K' := [(6, vb false)]) (L' := []) (by kernel_rfl) ?_
        refine To.thenN ?_
        refine Wp.ret ?_
        refine To.blockR ?_
        refine To.thenR ?_
        refine To.thenR ?_
        refine To.keep (kk := [6]) (kl := []) (K' := [(6, vb false)]) (L' := []) (by kernel_rfl) (by kernel_rfl) ?_
        cases h
        exact hQ
      · replace h := if_f hb h
        refine Wp.skip ?_
        refine To.blockN ?_
        refine To.thenN ?_
        refine rg [0, 2, 7] [] (K' := [(0, .str v0), (2, .fn 74 []), (7, vi (IntKind.wrap .i64 (v7 + 1)))]) (L' := []) (by kernel_rfl) ?_
        refine To.keep (kk := [0, 2, 7]) (kl := []) (K' := [(0, .str v0), (2, .fn 74 []), (7, vi (IntKind.wrap .i64 (v7 + 1)))]) (L' := []) (by kernel_rfl) (by kernel_rfl) ?_
        refine To.again ?_
        exact ih (IntKind.wrap .i64 (v7 + 1)) _ h hQ
    · replace h := if_f hb h
      refine Wp.exit ?_
      refine To.thenX ?_
      refine To.thenX ?_
      refine To.keep (kk := []) (kl := []) (K' := []) (L' := []) (by kernel_rfl) (by kernel_rfl) ?_
      cases h
      exact hQ
def name_of__name_Service_1__name_Service_2 (n : Nat) (a0 : List UInt8) : Option (Bool) :=
  if ((!((bif (decide ((List.length a0 : Int) < 1)) then true else (decide ((List.length a0 : Int) > 24))) == false) || decide (0 ≤ (0 : Int) ∧ (0 : Int) < (List.length a0 : Int)))) = true then (lett ((bif (bif (decide ((List.length a0 : Int) < 1)) then true else (decide ((List.length a0 : Int) > 24))) then true else (!(name_Service_1 (((a0)[Int.toNat 0]?.getD 0).toNat : Int)))) : Bool) fun x1 =>
  if x1 = true then some false
  else ((name_of__name_Service_1__name_Service_2_l1 n a0 n 1).bind fun o2 =>
  (Sum.elim (fun o2 => some true) (fun o2 => some o2)) o2)) else none
theorem ok_name_of__name_Service_1__name_Service_2 (n : Nat) (a0 : List UInt8) (r : Bool) (h : name_of__name_Service_1__name_Service_2 n a0 = some r) : CallsX Tryd.prog 70 [.str a0, .fn 71 [], .fn 74 []] (vb r) := by
  unfold name_of__name_Service_1__name_Service_2 at h
  refine callsX_of (fn := Tryd.f70) (by kernel_rfl) rfl (by kernel_rfl) (Nat.le_of_ble_eq_true (by kernel_rfl)) fun F0 w0 _ => ?_
  refine Wp.keep (kk := [0, 1, 2]) (kl := []) (K' := [(0, .str a0), (1, .fn 71 []), (2, .fn 74 [])]) (L' := []) (by kernel_rfl) (by kernel_rfl) ?_
  refine Wp.seq ?_
  refine rg [0, 1, 2] [] (K' := [(0, .str a0), (1, .fn 71 []), (2, .fn 74 [])]) (L' := []) (by kernel_rfl) ?_
  refine To.thenN (Wp.seq (Wp.seq ?_))
  obtain ⟨hc3, h⟩ := chk_of h
  obtain ⟨x1, hx1, h⟩ := lett_of h
  refine Wp.region hΓ [] [(12, vb (name_Service_1 (((a0)[Int.toNat 0]?.getD 0).toNat : Int)))] [] [0, 2, 22] [] (K' := [(0, .str a0), (2, .fn 74 []), (22, vb (bif (bif (decide ((List.length a0 : Int) < 1)) then true else (decide ((List.length a0 : Int) > 24))) then true else (!(name_Service_1 (((a0)[Int.toNat 0]?.getD 0).toNat : Int)))))]) (L' := []) (ob := [(!((bif (decide ((List.length a0 : Int) < 1)) then true else (decide ((List.length a0 : Int) > 24))) == false) || decide (0 ≤ (0 : Int) ∧ (0 : Int) < (List.length a0 : Int))) = true, (((bif (decide ((List.length a0 : Int) < 1)) then true else (decide ((List.length a0 : Int) > 24))) == false) = true → CX Tryd.prog 71 [.val (.int .u8 (((a0)[Int.toNat 0]?.getD 0).toNat : Int))] (vb (name_Service_1 (((a0)[Int.toNat 0]?.getD 0).toNat : Int))))]) (by kernel_rfl) (AllP.cons hc3 (AllP.cons (fun _ => cx (ok_name_Service_1 (((a0)[Int.toNat 0]?.getD 0).toNat : Int) _ rfl)) AllP.nil)) ?_
  refine To.eq (K' := [(0, .str a0), (2, .fn 74 []), (22, vb x1)]) (L' := []) (by cases hx1; rfl) (by cases hx1; rfl) ?_
  refine To.thenN ?_
  refine Wp.cond (b := x1) (by kernel_rfl) (fun hb => ?_) (fun hb => ?_)
  · replace h := if_t hb h
    refine Wp.seq ?_
    refine rg [6] [] (K' := [(6, vb false)]) (L' := []) (by kernel_rfl) ?_
    refine To.thenN ?_
    refine Wp.ret ?_
    refine To.thenR ?_
    refine To.keep (kk := [6]) (kl := []) (K' := [(6, vb false)]) (L' := []) (by kernel_rfl) (by kernel_rfl) ?_
    cases h
    exact To.done hΓ (by kernel_rfl)
  · replace h := if_f hb h
    refine Wp.skip (To.thenN (Wp.seq (Wp.seq ?_)))
    refine rg [0, 2, 7] [] (K' := [(0, .str a0), (2, .fn 74 []), (7, vi 1)]) (L' := []) (by kernel_rfl) ?_
    refine To.thenN (Wp.block ?_)
    obtain ⟨o2, ho2, h⟩ := bind_of h
    refine Wp.keep (kk := [0, 2, 7]) (kl := []) (K' := [(0, .str a0), (2, .fn 74 []), (7, vi 1)]) (L' := []) (by kernel_rfl) (by kernel_rfl) ?_
    refine Wp.loopL ?_
    refine ok_name_of__name_Service_1__name_Service_2_l1 n a0 n 1 o2 ho2 ?_
    rcases o2 with o2 | o2
    · replace h := sum_l h
      refine To.blockX ?_
      refine To.thenN (Wp.seq ?_)
      refine rg [6] [] (K' := [(6, vb true)]) (L' := []) (by kernel_rfl) ?_
      refine To.thenN ?_
      refine Wp.ret ?_
      refine To.keep (kk := [6]) (kl := []) (K' := [(6, vb true)]) (L' := []) (by kernel_rfl) (by kernel_rfl) ?_
      cases h
      exact To.done hΓ (by kernel_rfl)
    · replace h := sum_r h
      refine To.blockR ?_
      refine To.thenR ?_
      refine To.keep (kk := [6]) (kl := []) (K' := [(6, vb o2)]) (L' := []) (by kernel_rfl) (by kernel_rfl) ?_
      cases h
      exact To.done hΓ (by kernel_rfl)
def name_Service (n : Nat) (a0 : List UInt8) : Option (Bool) :=
  (name_of__name_Service_1__name_Service_2 n a0).bind fun r1 =>
  some r1
theorem ok_name_Service (n : Nat) (a0 : List UInt8) (r : Bool) (h : name_Service n a0 = some r) : CallsX Tryd.prog 51 [.str a0] (vb r) := by
  unfold name_Service at h
  refine callsX_of (fn := Tryd.f51) (by kernel_rfl) rfl (by kernel_rfl) (Nat.le_of_ble_eq_true (by kernel_rfl)) fun F0 w0 _ => ?_
  refine Wp.keep (kk := [0]) (kl := []) (K' := [(0, .str a0)]) (L' := []) (by kernel_rfl) (by kernel_rfl) ?_
  refine Wp.seq ?_
  refine rg [0] [] (K' := [(0, .str a0)]) (L' := []) (by kernel_rfl) ?_
  refine To.thenN (Wp.seq ?_)
  obtain ⟨r1, hr1, h⟩ := bind_of h
  refine Wp.region hΓ [] [(1, vb r1)] [] [2] [] (K' := [(2, vb r1)]) (L' := []) (ob := [(true = true → CX Tryd.prog 70 [.str a0, .fn 71 [], .fn 74 []] (vb r1))]) (by kernel_rfl) (AllP.cons (fun _ => cx (ok_name_of__name_Service_1__name_Service_2 n a0 _ hr1)) AllP.nil) ?_
  refine To.thenN ?_
  refine Wp.ret ?_
  refine To.keep (kk := [2]) (kl := []) (K' := [(2, vb r1)]) (L' := []) (by kernel_rfl) (by kernel_rfl) ?_
  cases h
  exact To.done hΓ (by kernel_rfl)
def E_script_Step : S_ref45_Step → List D := fun x => [.val (.int .i64 x.f_Kind), .val (.int .i64 x.f_N), .val (.int .i64 x.f_M), .val (.int .i64 x.f_Command.f_Kind), .recs (α := List UInt8) [] E_string x.f_Command.f_Services, .val (.int .i64 x.f_Command.f_Count), .val (.bool x.f_Command.f_Orphans), .val (.bool x.f_Command.f_Volumes), .val (.int .i64 x.f_Command.f_Timeout), .val (.int .i64 x.f_Command.f_Retries), .val (.int .i64 x.f_Call.f_Kind), .str x.f_Call.f_Name, .val (.int .i64 x.f_Call.f_Id), .str x.f_Call.f_Spec.f_Name, .str x.f_Call.f_Spec.f_Project, .str x.f_Call.f_Spec.f_Service, .val (.int .i64 x.f_Call.f_Spec.f_Number), .str x.f_Call.f_Spec.f_Hash, .recs (α := List UInt8) [] E_string x.f_Call.f_Spec.f_Nets, .recs (α := List UInt8) [] E_string x.f_Call.f_Spec.f_Vols, .str x.f_Call.f_Spec.f_Health.f_Test, .val (.int .i64 x.f_Call.f_Spec.f_Health.f_Every), .val (.int .i64 x.f_Call.f_Spec.f_Health.f_Start), .val (.int .i64 x.f_Call.f_Spec.f_Health.f_Retries), .val (.int .i64 x.f_Call.f_Spec.f_Restart), .val (.int .i64 x.f_Call.f_Spec.f_Tries)]
def script_words_flag__o0 (n : Nat) (a1 : List UInt8) (h0 : S_script_words) : Option (Bool × S_script_words) :=
  if ((!(((List.length h0.f_l : Int) == 0) == false) || decide (0 ≤ (0 : Int) ∧ (0 : Int) < (List.length h0.f_l : Int)))) = true then (if (bif ((List.length h0.f_l : Int) == 0) then true else (!(((h0.f_l)[Int.toNat 0]?.getD []) == a1))) = true then (some (false, h0))
  else (if (decide (0 ≤ (1 : Int) ∧ (1 : Int) ≤ (List.length h0.f_l : Int))) = true then (some (true, (S_script_words.mk (List.drop (Int.toNat 1) h0.f_l) h0.f_bad))) else none)) else none
theorem ok_script_words_flag__o0 (n : Nat) (a1 : List UInt8) (h0 : S_script_words) (r : Bool × S_script_words) (h : script_words_flag__o0 n a1 h0 = some r) : CallsB Tryd.prog 53 [.own 1000000 0, .str a1] [(1000000, 72, [ls h0.f_l, vb h0.f_bad])] (vb r.1) [(1000000, 72, [ls r.2.f_l, vb r.2.f_bad])] := by
  unfold script_words_flag__o0 at h
  refine callsB_of (fn := Tryd.f53) (by kernel_rfl) rfl (by kernel_rfl) (Nat.le_of_ble_eq_true (by kernel_rfl)) fun F0 w0 => ?_
  refine Wp.keep (kk := [0, 1]) (kl := [1000000]) (K' := [(0, .own 1000000 0), (1, .str a1)]) (L' := [(1000000, 72, [ls h0.f_l, vb h0.f_bad])]) (by kernel_rfl) (by kernel_rfl) ?_
  refine Wp.seq ?_
  refine rg [0, 1] [1000000] (K' := [(0, .own 1000000 0), (1, .str a1)]) (L' := [(1000000, 72, [ls h0.f_l, vb h0.f_bad])]) (by kernel_rfl) ?_
  refine To.thenN (Wp.seq (Wp.seq ?_))
  obtain ⟨hc2, h⟩ := chk_of h
  refine Wp.region hΓ [] [] [] [0, 20] [1000000] (K' := [(0, .own 1000000 0), (20, vb (bif ((List.length h0.f_l : Int) == 0) then true else (!(((h0.f_l)[Int.toNat 0]?.getD []) == a1))))]) (L' := [(1000000, 72, [ls h0.f_l, vb h0.f_bad])]) (ob := [(!(((List.length h0.f_l : Int) == 0) == false) || decide (0 ≤ (0 : Int) ∧ (0 : Int) < (List.length h0.f_l : Int))) = true]) (by kernel_rfl) (AllP.cons hc2 AllP.nil) ?_
  refine To.thenN ?_
  refine Wp.cond (b := (bif ((List.length h0.f_l : Int) == 0) then true else (!(((h0.f_l)[Int.toNat 0]?.getD []) == a1)))) (by kernel_rfl) (fun hb => ?_) (fun hb => ?_)
  · replace h := if_t hb h
    refine Wp.seq ?_
    refine rg [4] [1000000] (K' := [(4, vb false)]) (L' := [(1000000, 72, [ls h0.f_l, vb h0.f_bad])]) (by kernel_rfl) ?_
    refine To.thenN ?_
    refine Wp.ret ?_
    refine To.thenR ?_
    refine To.keep (kk := [4]) (kl := [1000000]) (K' := [(4, vb false)]) (L' := [(1000000, 72, [ls h0.f_l, vb h0.f_bad])]) (by kernel_rfl) (by kernel_rfl) ?_
    cases h
    exact To.doneB hΓ [1000000] (by kernel_rfl) (by kernel_rfl)
  · replace h := if_f hb h
    refine Wp.skip (To.thenN (Wp.seq ?_))
    obtain ⟨hc1, h⟩ := chk_of h
    refine Wp.region hΓ [] [] [] [] [1000000] (K' := []) (L' := [(1000000, 72, [ls (List.drop (Int.toNat 1) h0.f_l), vb h0.f_bad])]) (ob := [(decide (0 ≤ (1 : Int) ∧ (1 : Int) ≤ (List.length h0.f_l : Int))) = true]) (by kernel_rfl) (AllP.cons hc1 AllP.nil) ?_
    refine To.thenN (Wp.seq ?_)
    refine rg [4] [1000000] (K' := [(4, vb true)]) (L' := [(1000000, 72, [ls (List.drop (Int.toNat 1) h0.f_l), vb h0.f_bad])]) (by kernel_rfl) ?_
    refine To.thenN ?_
    refine Wp.ret ?_
    refine To.keep (kk := [4]) (kl := [1000000]) (K' := [(4, vb true)]) (L' := [(1000000, 72, [ls (List.drop (Int.toNat 1) h0.f_l), vb h0.f_bad])]) (by kernel_rfl) (by kernel_rfl) ?_
    cases h
    exact To.doneB hΓ [1000000] (by kernel_rfl) (by kernel_rfl)
def script_words_option__o0 (n : Nat) (a1 : List UInt8) (h0 : S_script_words) : Option (Int × S_script_words) :=
  (script_words_flag__o0 n a1 h0).bind fun r1 =>
  if (!r1.1) = true then (some (0, r1.2))
  else ((script_words_number__o0 n r1.2).bind fun r2 =>
  some (r2.1, (S_script_words.mk r2.2.f_l (bif r2.2.f_bad then true else (r2.1 == 0)))))
theorem ok_script_words_option__o0 (n : Nat) (a1 : List UInt8) (h0 : S_script_words) (r : Int × S_script_words) (h : script_words_option__o0 n a1 h0 = some r) : CallsB Tryd.prog 52 [.own 1000000 0, .str a1] [(1000000, 72, [ls h0.f_l, vb h0.f_bad])] (vi r.1) [(1000000, 72, [ls r.2.f_l, vb r.2.f_bad])] := by
  unfold script_words_option__o0 at h
  refine callsB_of (fn := Tryd.f52) (by kernel_rfl) rfl (by kernel_rfl) (Nat.le_of_ble_eq_true (by kernel_rfl)) fun F0 w0 => ?_
  refine Wp.keep (kk := [0, 1]) (kl := [1000000]) (K' := [(0, .own 1000000 0), (1, .str a1)]) (L' := [(1000000, 72, [ls h0.f_l, vb h0.f_bad])]) (by kernel_rfl) (by kernel_rfl) ?_
  refine Wp.seq ?_
  refine rg [0, 1] [1000000] (K' := [(0, .own 1000000 0), (1, .str a1)]) (L' := [(1000000, 72, [ls h0.f_l, vb h0.f_bad])]) (by kernel_rfl) ?_
  refine To.thenN (Wp.seq (Wp.seq ?_))
  obtain ⟨r1, hr1, h⟩ := bind_of h
  refine Wp.region hΓ [] [] [(2, ⟨[(1000000, 1000000)], [(1000000, 1000000)], [.own 1000000 0, .str a1], [(1000000, 72, [ls h0.f_l, vb h0.f_bad])], vb r1.1, [(1000000, 72, [ls r1.2.f_l, vb r1.2.f_bad])]⟩)] [0, 9] [1000000] (K' := [(0, .own 1000000 0), (9, vb (!r1.1))]) (L' := [(1000000, 72, [ls r1.2.f_l, vb r1.2.f_bad])]) (ob := [CbOb (CallsB Tryd.prog) 53 [.own 1000000 0, .str a1] [some (72, [ls h0.f_l, vb h0.f_bad])] ⟨[(1000000, 1000000)], [(1000000, 1000000)], [.own 1000000 0, .str a1], [(1000000, 72, [ls h0.f_l, vb h0.f_bad])], vb r1.1, [(1000000, 72, [ls r1.2.f_l, vb r1.2.f_bad])]⟩]) (by kernel_rfl) (AllP.cons (⟨(ok_script_words_flag__o0 n a1 h0 _ hr1), by kernel_rfl, by kernel_rfl⟩) AllP.nil) ?_
  refine To.thenN ?_
  refine Wp.cond (b := (!r1.1)) (by kernel_rfl) (fun hb => ?_) (fun hb => ?_)
  · replace h := if_t hb h
    refine Wp.seq ?_
    refine rg [4] [1000000] (K' := [(4, vi 0)]) (L' := [(1000000, 72, [ls r1.2.f_l, vb r1.2.f_bad])]) (by kernel_rfl) ?_
    refine To.thenN ?_
    refine Wp.ret ?_
    refine To.thenR ?_
    refine To.keep (kk := [4]) (kl := [1000000]) (K' := [(4, vi 0)]) (L' := [(1000000, 72, [ls r1.2.f_l, vb r1.2.f_bad])]) (by kernel_rfl) (by kernel_rfl) ?_
    cases h
    exact To.doneB hΓ [1000000] (by kernel_rfl) (by kernel_rfl)
  · replace h := if_f hb h
    refine Wp.skip (To.thenN (Wp.seq ?_))
    obtain ⟨r2, hr2, h⟩ := bind_of h
    refine Wp.region hΓ [] [] [(1, ⟨[(1000000, 1000000)], [(1000000, 1000000)], [.own 1000000 0], [(1000000, 72, [ls r1.2.f_l, vb r1.2.f_bad])], vi r2.1, [(1000000, 72, [ls r2.2.f_l, vb r2.2.f_bad])]⟩)] [0, 5] [1000000] (K' := [(0, .own 1000000 0), (5, vi r2.1)]) (L' := [(1000000, 72, [ls r2.2.f_l, vb r2.2.f_bad])]) (ob := [CbOb (CallsB Tryd.prog) 32 [.own 1000000 0] [some (72, [ls r1.2.f_l, vb r1.2.f_bad])] ⟨[(1000000, 1000000)], [(1000000, 1000000)], [.own 1000000 0], [(1000000, 72, [ls r1.2.f_l, vb r1.2.f_bad])], vi r2.1, [(1000000, 72, [ls r2.2.f_l, vb r2.2.f_bad])]⟩]) (by kernel_rfl) (AllP.cons (⟨(ok_script_words_number__o0 n r1.2 _ hr2), by kernel_rfl, by kernel_rfl⟩) AllP.nil) ?_
    refine To.thenN (Wp.seq ?_)
    refine rg [5] [1000000] (K' := [(5, vi r2.1)]) (L' := [(1000000, 72, [ls r2.2.f_l, vb (bif r2.2.f_bad then true else (r2.1 == 0))])]) (by kernel_rfl) ?_
    refine To.thenN (Wp.seq ?_)
    refine rg [4] [1000000] (K' := [(4, vi r2.1)]) (L' := [(1000000, 72, [ls r2.2.f_l, vb (bif r2.2.f_bad then true else (r2.1 == 0))])]) (by kernel_rfl) ?_
    refine To.thenN ?_
    refine Wp.ret ?_
    refine To.keep (kk := [4]) (kl := [1000000]) (K' := [(4, vi r2.1)]) (L' := [(1000000, 72, [ls r2.2.f_l, vb (bif r2.2.f_bad then true else (r2.1 == 0))])]) (by kernel_rfl) (by kernel_rfl) ?_
    cases h
    exact To.doneB hΓ [1000000] (by kernel_rfl) (by kernel_rfl)
def script_words_command__o0_l1 (n : Nat) (b4 : S_ref45_Step) : Nat → S_ref45_Step → S_script_words → Option (S_ref45_Step × S_script_words)
  | 0, _, _ => none
  | k + 1, b5, b1000000 => if ((!((decide ((List.length b1000000.f_l : Int) > 0)) == true) || decide (0 ≤ (0 : Int) ∧ (0 : Int) < (List.length b1000000.f_l : Int)))) = true then (((if ((decide ((List.length b1000000.f_l : Int) > 0)) == true) = true then name_Service n ((b1000000.f_l)[Int.toNat 0]?.getD []) else some false)).bind fun r2 =>
  if (bif (decide ((List.length b1000000.f_l : Int) > 0)) then r2 else false) = true then ((script_words_next__o0 n b1000000).bind fun r3 =>
  if (decide ((List.length b5.f_Command.f_Services + List.length ([r3.1] : List (List UInt8))) * (16 + 1) ≤ limit)) = true then (script_words_command__o0_l1 n b4 k (S_ref45_Step.mk b5.f_Kind b5.f_N b5.f_M (S_api_Command.mk b5.f_Command.f_Kind (b5.f_Command.f_Services ++ ([r3.1] : List (List UInt8))) b5.f_Command.f_Count b5.f_Command.f_Orphans b5.f_Command.f_Volumes b5.f_Command.f_Timeout b5.f_Command.f_Retries) b5.f_Call) r3.2) else none)
  else (some (b5, b1000000))) else none
theorem ok_script_words_command__o0_l1 (n : Nat) (b4 : S_ref45_Step) {F0 : Fz} {w0 : Pt Tryd.prog} {Q : Exit → Act → World → Prop} (k : Nat) : ∀ (b5 : S_ref45_Step) (b1000000 : S_script_words) (o : S_ref45_Step × S_script_words), script_words_command__o0_l1 n b4 k b5 b1000000 = some o → To 65 F0 w0 [(0, .own 1000000 0), (4, .own 4 0), (5, .own 5 0), (6, .own 5 3)] [(4, 36, (E_script_Step b4)), (5, 36, [vi o.1.f_Kind, vi o.1.f_N, vi o.1.f_M, vi o.1.f_Command.f_Kind, .row 4304, vi o.1.f_Command.f_Count, vb o.1.f_Command.f_Orphans, vb o.1.f_Command.f_Volumes, vi o.1.f_Command.f_Timeout, vi o.1.f_Command.f_Retries, vi o.1.f_Call.f_Kind, .str o.1.f_Call.f_Name, vi o.1.f_Call.f_Id, .str o.1.f_Call.f_Spec.f_Name, .str o.1.f_Call.f_Spec.f_Project, .str o.1.f_Call.f_Spec.f_Service, vi o.1.f_Call.f_Spec.f_Number, .str o.1.f_Call.f_Spec.f_Hash, ls o.1.f_Call.f_Spec.f_Nets, ls o.1.f_Call.f_Spec.f_Vols, .str o.1.f_Call.f_Spec.f_Health.f_Test, vi o.1.f_Call.f_Spec.f_Health.f_Every, vi o.1.f_Call.f_Spec.f_Health.f_Start, vi o.1.f_Call.f_Spec.f_Health.f_Retries, vi o.1.f_Call.f_Spec.f_Restart, vi o.1.f_Call.f_Spec.f_Tries]), (4304, 9, [.rowc false (α := List UInt8) [] E_string o.1.f_Command.f_Services]), (1000000, 72, [ls o.2.f_l, vb o.2.f_bad])] (.exit 0) Q → WL Tryd.prog 65 F0 w0 [(0, .own 1000000 0), (4, .own 4 0), (5, .own 5 0), (6, .own 5 3)] [(4, 36, (E_script_Step b4)), (5, 36, (List.set (E_script_Step b5) 4 (.row 4304))), (4304, 9, [.rowc false (α := List UInt8) [] E_string b5.f_Command.f_Services]), (1000000, 72, [ls b1000000.f_l, vb b1000000.f_bad])] (cI (cI (cA (cB (cB (cB (cF Tryd.f31))))))) Q := by
  induction k with
  | zero => intro b5 b1000000 o h; cases h
  | succ k ih =>
    intro b5 b1000000 o h hQ
    rw [script_words_command__o0_l1] at h
    refine WL.round ?_
    refine Wp.seq (Wp.seq ?_)
    obtain ⟨hc5, h⟩ := chk_of h
    obtain ⟨r2, hr2, h⟩ := bind_of h
    refine Wp.region hΓ [] [(13, vb r2)] [] [0, 4, 5, 6, 27] [4, 5, 4304, 1000000] (K' := [(0, .own 1000000 0), (4, .own 4 0), (5, .own 5 0), (6, .own 5 3), (27, vb (bif (decide ((List.length b1000000.f_l : Int) > 0)) then r2 else false))]) (L' := [(4, 36, (E_script_Step b4)), (5, 36, (List.set (E_script_Step b5) 4 (.row 4304))), (4304, 9, [.rowc false (α := List UInt8) [] E_string b5.f_Command.f_Services]), (1000000, 72, [ls b1000000.f_l, vb b1000000.f_bad])]) (ob := [(!((decide ((List.length b1000000.f_l : Int) > 0)) == true) || decide (0 ≤ (0 : Int) ∧ (0 : Int) < (List.length b1000000.f_l : Int))) = true, (((decide ((List.length b1000000.f_l : Int) > 0)) == true) = true → CX Tryd.prog 51 [.str ((b1000000.f_l)[Int.toNat 0]?.getD [])] (vb r2))]) (by kernel_rfl) (AllP.cons hc5 (AllP.cons (fun hg => cx (ok_name_Service n ((b1000000.f_l)[Int.toNat 0]?.getD []) _ (if_t hg hr2))) AllP.nil)) ?_
    refine To.thenN ?_
    refine Wp.cond (b := (bif (decide ((List.length b1000000.f_l : Int) > 0)) then r2 else false)) (by kernel_rfl) (fun hb => ?_) (fun hb => ?_)
    · replace h := if_t hb h
      refine Wp.skip (To.thenN (Wp.block ?_))
      obtain ⟨r3, hr3, h⟩ := bind_of h
      obtain ⟨hc4, h⟩ := chk_of h
      refine Wp.regionO hm hΓ [] [(7, ls [r3.1]), (8, ls (b5.f_Command.f_Services ++ ([r3.1] : List (List UInt8))))] [(6, ⟨[(1000000, 1000000)], [(1000000, 1000000)], [.own 1000000 0], [(1000000, 72, [ls b1000000.f_l, vb b1000000.f_bad])], .str r3.1, [(1000000, 72, [ls r3.2.f_l, vb r3.2.f_bad])]⟩)] [0, 4, 5, 6, 27, 28, 29, 30, 31, 32, 33, 34, 35, 36, 37, 38] [4, 5, 35, 36, 4304, 1000000] [0, 4, 5, 6] [4, 5, 36, 1000000] (K' := [(0, .own 1000000 0), (4, .own 4 0), (5, .own 5 0), (6, .own 5 3)]) (L' := [(4, 36, (E_script_Step b4)), (5, 36, (List.set (E_script_Step b5) 4 (.row 36))), (36, 9, [.rowc false (α := List UInt8) [] E_string (b5.f_Command.f_Services ++ ([r3.1] : List (List UInt8)))]), (1000000, 72, [ls r3.2.f_l, vb r3.2.f_bad])]) (ob := [CbOb (CallsB Tryd.prog) 29 [.own 1000000 0] [some (72, [ls b1000000.f_l, vb b1000000.f_bad])] ⟨[(1000000, 1000000)], [(1000000, 1000000)], [.own 1000000 0], [(1000000, 72, [ls b1000000.f_l, vb b1000000.f_bad])], .str r3.1, [(1000000, 72, [ls r3.2.f_l, vb r3.2.f_bad])]⟩, (MkOb 1 [.str r3.1] 1 (ls [r3.1]) ∧ GoodR (ls [r3.1])), (decide ((List.length b5.f_Command.f_Services + List.length ([r3.1] : List (List UInt8))) * (16 + 1) ≤ limit)) = true, (AppOb [] E_string b5.f_Command.f_Services (List.flatMap E_string ([r3.1] : List (List UInt8))) (List.length ([r3.1] : List (List UInt8))) (ls (b5.f_Command.f_Services ++ ([r3.1] : List (List UInt8)))) ∧ GoodR (ls (b5.f_Command.f_Services ++ ([r3.1] : List (List UInt8)))))]) (by kernel_rfl) (by kernel_rfl) (AllP.cons (⟨(ok_script_words_next__o0 n b1000000 _ hr3), by kernel_rfl, by kernel_rfl⟩) (AllP.cons (mkOb (by kernel_rfl) rfl (by kernel_rfl) (good_E_string _)) (AllP.cons hc4 (AllP.cons (appOb rfl rfl (good_E_string _)) AllP.nil)))) ?_
      refine To.blockN ?_
      refine To.keep (kk := [0, 4, 5, 6]) (kl := [4, 5, 36, 1000000]) (K' := [(0, .own 1000000 0), (4, .own 4 0), (5, .own 5 0), (6, .own 5 3)]) (L' := [(4, 36, (E_script_Step b4)), (5, 36, (List.set (E_script_Step b5) 4 (.row 36))), (36, 9, [.rowc false (α := List UInt8) [] E_string (b5.f_Command.f_Services ++ ([r3.1] : List (List UInt8)))]), (1000000, 72, [ls r3.2.f_l, vb r3.2.f_bad])]) (by kernel_rfl) (by kernel_rfl) ?_
      refine To.pre (St.rename 36 4304 (by decide) (K' := [(0, .own 1000000 0), (4, .own 4 0), (5, .own 5 0), (6, .own 5 3)]) (L' := [(4, 36, (E_script_Step b4)), (5, 36, (List.set (E_script_Step b5) 4 (.row 4304))), (4304, 9, [.rowc false (α := List UInt8) [] E_string (b5.f_Command.f_Services ++ ([r3.1] : List (List UInt8)))]), (1000000, 72, [ls r3.2.f_l, vb r3.2.f_bad])]) (by kernel_rfl) (by kernel_rfl) (by kernel_rfl)) ?_
      refine To.keep (kk := [0, 4, 5, 6]) (kl := [4, 5, 4304, 1000000]) (K' := [(0, .own 1000000 0), (4, .own 4 0), (5, .own 5 0), (6, .own 5 3)]) (L' := [(4, 36, (E_script_Step b4)), (5, 36, (List.set (E_script_Step b5) 4 (.row 4304))), (4304, 9, [.rowc false (α := List UInt8) [] E_string (b5.f_Command.f_Services ++ ([r3.1] : List (List UInt8)))]), (1000000, 72, [ls r3.2.f_l, vb r3.2.f_bad])]) (by kernel_rfl) (by kernel_rfl) ?_
      refine To.again ?_
      exact ih (S_ref45_Step.mk b5.f_Kind b5.f_N b5.f_M (S_api_Command.mk b5.f_Command.f_Kind (b5.f_Command.f_Services ++ ([r3.1] : List (List UInt8))) b5.f_Command.f_Count b5.f_Command.f_Orphans b5.f_Command.f_Volumes b5.f_Command.f_Timeout b5.f_Command.f_Retries) b5.f_Call) r3.2 _ h hQ
    · replace h := if_f hb h
      refine Wp.exit ?_
      refine To.thenX ?_
      refine To.thenX ?_
      refine To.keep (kk := [0, 4, 5, 6]) (kl := [4, 5, 4304, 1000000]) (K' := [(0, .own 1000000 0), (4, .own 4 0), (5, .own 5 0), (6, .own 5 3)]) (L' := [(4, 36, (E_script_Step b4)), (5, 36, (List.set (E_script_Step b5) 4 (.row 4304))), (4304, 9, [.rowc false (α := List UInt8) [] E_string b5.f_Command.f_Services]), (1000000, 72, [ls b1000000.f_l, vb b1000000.f_bad])]) (by kernel_rfl) (by kernel_rfl) ?_
      cases h
      exact hQ
def script_words_command__o0 (n : Nat) (a1 : Int) (h0 : S_script_words) : Option (S_ref45_Step × S_script_words) :=
  (script_words_number__o0 n h0).bind fun r1 =>
  (script_words_command__o0_l1 n (S_ref45_Step.mk 0 0 0 (S_api_Command.mk 0 [] 0 false false 0 0) (S_api_Call.mk 0 [] 0 (S_api_Spec.mk [] [] [] 0 [] [] [] (S_api_Check.mk [] 0 0 0) 0 0))) n (S_ref45_Step.mk 1 r1.1 0 (S_api_Command.mk a1 [] 0 false false 0 0) (S_api_Call.mk 0 [] 0 (S_api_Spec.mk [] [] [] 0 [] [] [] (S_api_Check.mk [] 0 0 0) 0 0))) r1.2).bind fun o2 =>
  (script_words_option__o0 n [45, 110] o2.2).bind fun r3 =>
  (script_words_flag__o0 n [45, 111] r3.2).bind fun r4 =>
  (script_words_flag__o0 n [45, 118] r4.2).bind fun r5 =>
  (script_words_option__o0 n [45, 116] r5.2).bind fun r6 =>
  (script_words_option__o0 n [45, 114] r6.2).bind fun r7 =>
  some ((S_ref45_Step.mk o2.1.f_Kind o2.1.f_N o2.1.f_M (S_api_Command.mk o2.1.f_Command.f_Kind o2.1.f_Command.f_Services r3.1 r4.1 r5.1 r6.1 r7.1) o2.1.f_Call), r7.2)
theorem ok_script_words_command__o0 (n : Nat) (a1 : Int) (h0 : S_script_words) (r : S_ref45_Step × S_script_words) (h : script_words_command__o0 n a1 h0 = some r) : CallsB Tryd.prog 31 [.own 1000000 0, vi a1] [(1000000, 72, [ls h0.f_l, vb h0.f_bad])] (.agg [vi r.1.f_Kind, vi r.1.f_N, vi r.1.f_M, vi r.1.f_Command.f_Kind, ls r.1.f_Command.f_Services, vi r.1.f_Command.f_Count, vb r.1.f_Command.f_Orphans, vb r.1.f_Command.f_Volumes, vi r.1.f_Command.f_Timeout, vi r.1.f_Command.f_Retries, vi r.1.f_Call.f_Kind, .str r.1.f_Call.f_Name, vi r.1.f_Call.f_Id, .str r.1.f_Call.f_Spec.f_Name, .str r.1.f_Call.f_Spec.f_Project, .str r.1.f_Call.f_Spec.f_Service, vi r.1.f_Call.f_Spec.f_Number, .str r.1.f_Call.f_Spec.f_Hash, ls r.1.f_Call.f_Spec.f_Nets, ls r.1.f_Call.f_Spec.f_Vols, .str r.1.f_Call.f_Spec.f_Health.f_Test, vi r.1.f_Call.f_Spec.f_Health.f_Every, vi r.1.f_Call.f_Spec.f_Health.f_Start, vi r.1.f_Call.f_Spec.f_Health.f_Retries, vi r.1.f_Call.f_Spec.f_Restart, vi r.1.f_Call.f_Spec.f_Tries]) [(1000000, 72, [ls r.2.f_l, vb r.2.f_bad])] := by
  unfold script_words_command__o0 at h
  refine callsB_of (fn := Tryd.f31) (by kernel_rfl) rfl (by kernel_rfl) (Nat.le_of_ble_eq_true (by kernel_rfl)) fun F0 w0 => ?_
  refine Wp.keep (kk := [0, 1]) (kl := [1000000]) (K' := [(0, .own 1000000 0), (1, vi a1)]) (L' := [(1000000, 72, [ls h0.f_l, vb h0.f_bad])]) (by kernel_rfl) (by kernel_rfl) ?_
  refine Wp.seq ?_
  refine rg [0, 1, 4] [4, 1000000] (K' := [(0, .own 1000000 0), (1, vi a1), (4, .own 4 0)]) (L' := [(4, 36, [vi 0, vi 0, vi 0, vi 0, .val (.slice none 0 0), vi 0, vb false, vb false, vi 0, vi 0, vi 0, .str [], vi 0, .str [], .str [], .str [], vi 0, .str [], .val (.slice none 0 0), .val (.slice none 0 0), .str [], vi 0, vi 0, vi 0, vi 0, vi 0]), (1000000, 72, [ls h0.f_l, vb h0.f_bad])]) (by kernel_rfl) ?_
  refine To.thenN (Wp.seq ?_)
  obtain ⟨r1, hr1, h⟩ := bind_of h
  refine Wp.region hΓ [] [] [(1, ⟨[(1000000, 1000000)], [(1000000, 1000000)], [.own 1000000 0], [(1000000, 72, [ls h0.f_l, vb h0.f_bad])], vi r1.1, [(1000000, 72, [ls r1.2.f_l, vb r1.2.f_bad])]⟩)] [0, 4, 5] [4, 5, 1000000] (K' := [(0, .own 1000000 0), (4, .own 4 0), (5, .own 5 0)]) (L' := [(4, 36, [vi 0, vi 0, vi 0, vi 0, .val (.slice none 0 0), vi 0, vb false, vb false, vi 0, vi 0, vi 0, .str [], vi 0, .str [], .str [], .str [], vi 0, .str [], .val (.slice none 0 0), .val (.slice none 0 0), .str [], vi 0, vi 0, vi 0, vi 0, vi 0]), (5, 36, [vi 1, vi r1.1, vi 0, vi a1, .val (.slice none 0 0), vi 0, vb false, vb false, vi 0, vi 0, vi 0, .str [], vi 0, .str [], .str [], .str [], vi 0, .str [], .val (.slice none 0 0), .val (.slice none 0 0), .str [], vi 0, vi 0, vi 0, vi 0, vi 0]), (1000000, 72, [ls r1.2.f_l, vb r1.2.f_bad])]) (ob := [CbOb (CallsB Tryd.prog) 32 [.own 1000000 0] [some (72, [ls h0.f_l, vb h0.f_bad])] ⟨[(1000000, 1000000)], [(1000000, 1000000)], [.own 1000000 0], [(1000000, 72, [ls h0.f_l, vb h0.f_bad])], vi r1.1, [(1000000, 72, [ls r1.2.f_l, vb r1.2.f_bad])]⟩]) (by kernel_rfl) (AllP.cons (⟨(ok_script_words_number__o0 n h0 _ hr1), by kernel_rfl, by kernel_rfl⟩) AllP.nil) ?_
  refine To.thenN (Wp.seq ?_)
  refine rg [0, 4, 5, 6] [4, 5, 1000000] (K' := [(0, .own 1000000 0), (4, .own 4 0), (5, .own 5 0), (6, .own 5 3)]) (L' := [(4, 36, [vi 0, vi 0, vi 0, vi 0, .val (.slice none 0 0), vi 0, vb false, vb false, vi 0, vi 0, vi 0, .str [], vi 0, .str [], .str [], .str [], vi 0, .str [], .val (.slice none 0 0), .val (.slice none 0 0), .str [], vi 0, vi 0, vi 0, vi 0, vi 0]), (5, 36, [vi 1, vi r1.1, vi 0, vi a1, .val (.slice none 0 0), vi 0, vb false, vb false, vi 0, vi 0, vi 0, .str [], vi 0, .str [], .str [], .str [], vi 0, .str [], .val (.slice none 0 0), .val (.slice none 0 0), .str [], vi 0, vi 0, vi 0, vi 0, vi 0]), (1000000, 72, [ls r1.2.f_l, vb r1.2.f_bad])]) (by kernel_rfl) ?_
  refine To.thenN (Wp.seq (Wp.block ?_))
  obtain ⟨o2, ho2, h⟩ := bind_of h
  refine Wp.keep (kk := [0, 4, 5, 6]) (kl := [4, 5, 1000000]) (K' := [(0, .own 1000000 0), (4, .own 4 0), (5, .own 5 0), (6, .own 5 3)]) (L' := [(4, 36, [vi 0, vi 0, vi 0, vi 0, .val (.slice none 0 0), vi 0, vb false, vb false, vi 0, vi 0, vi 0, .str [], vi 0, .str [], .str [], .str [], vi 0, .str [], .val (.slice none 0 0), .val (.slice none 0 0), .str [], vi 0, vi 0, vi 0, vi 0, vi 0]), (5, 36, [vi 1, vi r1.1, vi 0, vi a1, .val (.slice none 0 0), vi 0, vb false, vb false, vi 0, vi 0, vi 0, .str [], vi 0, .str [], .str [], .str [], vi 0, .str [], .val (.slice none 0 0), .val (.slice none 0 0), .str [], vi 0, vi 0, vi 0, vi 0, vi 0]), (1000000, 72, [ls r1.2.f_l, vb r1.2.f_bad])]) (by kernel_rfl) (by kernel_rfl) ?_
  refine Wp.pre (St.vacantB 5 4 4304 9 (good_E_string _) (by decide) (by kernel_rfl) (L' := [(4, 36, [vi 0, vi 0, vi 0, vi 0, .val (.slice none 0 0), vi 0, vb false, vb false, vi 0, vi 0, vi 0, .str [], vi 0, .str [], .str [], .str [], vi 0, .str [], .val (.slice none 0 0), .val (.slice none 0 0), .str [], vi 0, vi 0, vi 0, vi 0, vi 0]), (5, 36, [vi 1, vi r1.1, vi 0, vi a1, .row 4304, vi 0, vb false, vb false, vi 0, vi 0, vi 0, .str [], vi 0, .str [], .str [], .str [], vi 0, .str [], .val (.slice none 0 0), .val (.slice none 0 0), .str [], vi 0, vi 0, vi 0, vi 0, vi 0]), (1000000, 72, [ls r1.2.f_l, vb r1.2.f_bad])]) (by kernel_rfl)) ?_
  refine Wp.keep (kk := [0, 4, 5, 6]) (kl := [4, 5, 4304, 1000000]) (K' := [(0, .own 1000000 0), (4, .own 4 0), (5, .own 5 0), (6, .own 5 3)]) (L' := [(4, 36, [vi 0, vi 0, vi 0, vi 0, .val (.slice none 0 0), vi 0, vb false, vb false, vi 0, vi 0, vi 0, .str [], vi 0, .str [], .str [], .str [], vi 0, .str [], .val (.slice none 0 0), .val (.slice none 0 0), .str [], vi 0, vi 0, vi 0, vi 0, vi 0]), (5, 36, [vi 1, vi r1.1, vi 0, vi a1, .row 4304, vi 0, vb false, vb false, vi 0, vi 0, vi 0, .str [], vi 0, .str [], .str [], .str [], vi 0, .str [], .val (.slice none 0 0), .val (.slice none 0 0), .str [], vi 0, vi 0, vi 0, vi 0, vi 0]), (4304, 9, [.rowc false (α := List UInt8) [] E_string []]), (1000000, 72, [ls r1.2.f_l, vb r1.2.f_bad])]) (by kernel_rfl) (by kernel_rfl) ?_
  refine Wp.weak (K' := [(0, .own 1000000 0), (4, .own 4 0), (5, .own 5 0), (6, .own 5 3)]) (L' := [(4, 36, [vi 0, vi 0, vi 0, vi 0, ls [], vi 0, vb false, vb false, vi 0, vi 0, vi 0, .str [], vi 0, .str [], .str [], .str [], vi 0, .str [], ls [], ls [], .str [], vi 0, vi 0, vi 0, vi 0, vi 0]), (5, 36, [vi 1, vi r1.1, vi 0, vi a1, .row 4304, vi 0, vb false, vb false, vi 0, vi 0, vi 0, .str [], vi 0, .str [], .str [], .str [], vi 0, .str [], ls [], ls [], .str [], vi 0, vi 0, vi 0, vi 0, vi 0]), (4304, 9, [.rowc false (α := List UInt8) [] E_string []]), (1000000, 72, [ls r1.2.f_l, vb r1.2.f_bad])]) (.cons (.refl _) (.cons (.refl _) (.cons (.refl _) (.cons (.refl _) .nil)))) (.cons (.cons (.refl _) (.cons (.refl _) (.cons (.refl _) (.cons (.refl _) (.cons (.zero _ _) (.cons (.refl _) (.cons (.refl _) (.cons (.refl _) (.cons (.refl _) (.cons (.refl _) (.cons (.refl _) (.cons (.refl _) (.cons (.refl _) (.cons (.refl _) (.cons (.refl _) (.cons (.refl _) (.cons (.refl _) (.cons (.refl _) (.cons (.zero _ _) (.cons (.zero _ _) (.cons (.refl _) (.cons (.refl _) (.cons (.refl _) (.cons (.refl _) (.cons (.refl _) (.cons (.refl _) .nil)))))))))))))))))))))))))) (.cons (.cons (.refl _) (.cons (.refl _) (.cons (.refl _) (.cons (.refl _) (.cons (.refl _) (.cons (.refl _) (.cons (.refl _) (.cons (.refl _) (.cons (.refl _) (.cons (.refl _) (.cons (.refl _) (.cons (.refl _) (.cons (.refl _) (.cons (.refl _) (.cons (.refl _) (.cons (.refl _) (.cons (.refl _) (.cons (.refl _) (.cons (.zero _ _) (.cons (.zero _ _) (.cons (.refl _) (.cons (.refl _) (.cons (.refl _) (.cons (.refl _) (.cons (.refl _) (.cons (.refl _) .nil)))))))))))))))))))))))))) (.cons (.cons (.refl _) .nil) (.cons (.cons (.refl _) (.cons (.refl _) .nil)) .nil)))) ?_
  refine Wp.loopL ?_
  refine ok_script_words_command__o0_l1 n (S_ref45_Step.mk 0 0 0 (S_api_Command.mk 0 [] 0 false false 0 0) (S_api_Call.mk 0 [] 0 (S_api_Spec.mk [] [] [] 0 [] [] [] (S_api_Check.mk [] 0 0 0) 0 0))) n (S_ref45_Step.mk 1 r1.1 0 (S_api_Command.mk a1 [] 0 false false 0 0) (S_api_Call.mk 0 [] 0 (S_api_Spec.mk [] [] [] 0 [] [] [] (S_api_Check.mk [] 0 0 0) 0 0))) r1.2 o2 ho2 ?_
  refine To.blockX ?_
  refine To.thenN (Wp.seq ?_)
  obtain ⟨r3, hr3, h⟩ := bind_of h
  obtain ⟨r4, hr4, h⟩ := bind_of h
  obtain ⟨r5, hr5, h⟩ := bind_of h
  refine Wp.region hΓ [] [] [(4, ⟨[(1000000, 1000000)], [(1000000, 1000000)], [.own 1000000 0, .str [45, 110]], [(1000000, 72, [ls o2.2.f_l, vb o2.2.f_bad])], vi r3.1, [(1000000, 72, [ls r3.2.f_l, vb r3.2.f_bad])]⟩), (6, ⟨[(1000000, 1000000)], [(1000000, 1000000)], [.own 1000000 0, .str [45, 111]], [(1000000, 72, [ls r3.2.f_l, vb r3.2.f_bad])], vb r4.1, [(1000000, 72, [ls r4.2.f_l, vb r4.2.f_bad])]⟩), (8, ⟨[(1000000, 1000000)], [(1000000, 1000000)], [.own 1000000 0, .str [45, 118]], [(1000000, 72, [ls r4.2.f_l, vb r4.2.f_bad])], vb r5.1, [(1000000, 72, [ls r5.2.f_l, vb r5.2.f_bad])]⟩)] [0, 4, 5, 6] [4, 5, 4304, 1000000] (K' := [(0, .own 1000000 0), (4, .own 4 0), (5, .own 5 0), (6, .own 5 3)]) (L' := [(4, 36, [vi 0, vi 0, vi 0, vi 0, ls [], vi 0, vb false, vb false, vi 0, vi 0, vi 0, .str [], vi 0, .str [], .str [], .str [], vi 0, .str [], ls [], ls [], .str [], vi 0, vi 0, vi 0, vi 0, vi 0]), (5, 36, (List.set (List.set (List.set (List.set (E_script_Step o2.1) 4 (.row 4304)) 5 (vi r3.1)) 6 (vb r4.1)) 7 (vb r5.1))), (4304, 9, [.rowc false (α := List UInt8) [] E_string o2.1.f_Command.f_Services]), (1000000, 72, [ls r5.2.f_l, vb r5.2.f_bad])]) (ob := [CbOb (CallsB Tryd.prog) 52 [.own 1000000 0, .str [45, 110]] [some (72, [ls o2.2.f_l, vb o2.2.f_bad])] ⟨[(1000000, 1000000)], [(1000000, 1000000)], [.own 1000000 0, .str [45, 110]], [(1000000, 72, [ls o2.2.f_l, vb o2.2.f_bad])], vi r3.1, [(1000000, 72, [ls r3.2.f_l, vb r3.2.f_bad])]⟩, CbOb (CallsB Tryd.prog) 53 [.own 1000000 0, .str [45, 111]] [some (72, [ls r3.2.f_l, vb r3.2.f_bad])] ⟨[(1000000, 1000000)], [(1000000, 1000000)], [.own 1000000 0, .str [45, 111]], [(1000000, 72, [ls r3.2.f_l, vb r3.2.f_bad])], vb r4.1, [(1000000, 72, [ls r4.2.f_l, vb r4.2.f_bad])]⟩, CbOb (CallsB Tryd.prog) 53 [.own 1000000 0, .str [45, 118]] [some (72, [ls r4.2.f_l, vb r4.2.f_bad])] ⟨[(1000000, 1000000)], [(1000000, 1000000)], [.own 1000000 0, .str [45, 118]], [(1000000, 72, [ls r4.2.f_l, vb r4.2.f_bad])], vb r5.1, [(1000000, 72, [ls r5.2.f_l, vb r5.2.f_bad])]⟩]) (by kernel_rfl) (AllP.cons (⟨(ok_script_words_option__o0 n [45, 110] o2.2 _ hr3), by kernel_rfl, by kernel_rfl⟩) (AllP.cons (⟨(ok_script_words_flag__o0 n [45, 111] r3.2 _ hr4), by kernel_rfl, by kernel_rfl⟩) (AllP.cons (⟨(ok_script_words_flag__o0 n [45, 118] r4.2 _ hr5), by kernel_rfl, by kernel_rfl⟩) AllP.nil))) ?_
  refine To.thenN (Wp.seq ?_)
  obtain ⟨r6, hr6, h⟩ := bind_of h
  obtain ⟨r7, hr7, h⟩ := bind_of h
  refine Wp.region hΓ [] [] [(3, ⟨[(1000000, 1000000)], [(1000000, 1000000)], [.own 1000000 0, .str [45, 116]], [(1000000, 72, [ls r5.2.f_l, vb r5.2.f_bad])], vi r6.1, [(1000000, 72, [ls r6.2.f_l, vb r6.2.f_bad])]⟩), (5, ⟨[(1000000, 1000000)], [(1000000, 1000000)], [.own 1000000 0, .str [45, 114]], [(1000000, 72, [ls r6.2.f_l, vb r6.2.f_bad])], vi r7.1, [(1000000, 72, [ls r7.2.f_l, vb r7.2.f_bad])]⟩)] [4, 5] [4, 5, 4304, 1000000] (K' := [(4, .own 4 0), (5, .own 5 0)]) (L' := [(4, 36, [vi 0, vi 0, vi 0, vi 0, ls [], vi 0, vb false, vb false, vi 0, vi 0, vi 0, .str [], vi 0, .str [], .str [], .str [], vi 0, .str [], ls [], ls [], .str [], vi 0, vi 0, vi 0, vi 0, vi 0]), (5, 36, (List.set (List.set (List.set (List.set (List.set (List.set (E_script_Step o2.1) 4 (.row 4304)) 5 (vi r3.1)) 6 (vb r4.1)) 7 (vb r5.1)) 8 (vi r6.1)) 9 (vi r7.1))), (4304, 9, [.rowc false (α := List UInt8) [] E_string o2.1.f_Command.f_Services]), (1000000, 72, [ls r7.2.f_l, vb r7.2.f_bad])]) (ob := [CbOb (CallsB Tryd.prog) 52 [.own 1000000 0, .str [45, 116]] [some (72, [ls r5.2.f_l, vb r5.2.f_bad])] ⟨[(1000000, 1000000)], [(1000000, 1000000)], [.own 1000000 0, .str [45, 116]], [(1000000, 72, [ls r5.2.f_l, vb r5.2.f_bad])], vi r6.1, [(1000000, 72, [ls r6.2.f_l, vb r6.2.f_bad])]⟩, CbOb (CallsB Tryd.prog) 52 [.own 1000000 0, .str [45, 114]] [some (72, [ls r6.2.f_l, vb r6.2.f_bad])] ⟨[(1000000, 1000000)], [(1000000, 1000000)], [.own 1000000 0, .str [45, 114]], [(1000000, 72, [ls r6.2.f_l, vb r6.2.f_bad])], vi r7.1, [(1000000, 72, [ls r7.2.f_l, vb r7.2.f_bad])]⟩]) (by kernel_rfl) (AllP.cons (⟨(ok_script_words_option__o0 n [45, 116] r5.2 _ hr6), by kernel_rfl, by kernel_rfl⟩) (AllP.cons (⟨(ok_script_words_option__o0 n [45, 114] r6.2 _ hr7), by kernel_rfl, by kernel_rfl⟩) AllP.nil)) ?_
  refine To.thenN (Wp.seq ?_)
  refine rg [4] [4, 4304, 1000000] (K' := [(4, .own 4 0)]) (L' := [(4, 36, (List.set (List.set (List.set (List.set (List.set (List.set (E_script_Step o2.1) 4 (.row 4304)) 5 (vi r3.1)) 6 (vb r4.1)) 7 (vb r5.1)) 8 (vi r6.1)) 9 (vi r7.1))), (4304, 9, [.rowc false (α := List UInt8) [] E_string o2.1.f_Command.f_Services]), (1000000, 72, [ls r7.2.f_l, vb r7.2.f_bad])]) (by kernel_rfl) ?_
  refine To.thenN ?_
  refine Wp.ret ?_
  refine To.keep (kk := [4]) (kl := [4, 4304, 1000000]) (K' := [(4, .own 4 0)]) (L' := [(4, 36, (List.set (List.set (List.set (List.set (List.set (List.set (E_script_Step o2.1) 4 (.row 4304)) 5 (vi r3.1)) 6 (vb r4.1)) 7 (vb r5.1)) 8 (vi r6.1)) 9 (vi r7.1))), (4304, 9, [.rowc false (α := List UInt8) [] E_string o2.1.f_Command.f_Services]), (1000000, 72, [ls r7.2.f_l, vb r7.2.f_bad])]) (by kernel_rfl) (by kernel_rfl) ?_
  refine To.pre (St.settle (ks := [4304]) (kk := [4]) (kl := [4, 4304, 1000000]) (K' := [(4, .own 4 0)]) (L' := [(4, 36, (List.set (List.set (List.set (List.set (List.set (List.set (E_script_Step o2.1) 4 (.row 4304)) 5 (vi r3.1)) 6 (vb r4.1)) 7 (vb r5.1)) 8 (vi r6.1)) 9 (vi r7.1))), (4304, 9, [.rowc true (α := List UInt8) [] E_string o2.1.f_Command.f_Services]), (1000000, 72, [ls r7.2.f_l, vb r7.2.f_bad])]) (by kernel_rfl)) ?_
  refine To.pre (St.sealB [4] (L' := [(4, 36, (List.set (List.set (List.set (List.set (List.set (E_script_Step o2.1) 5 (vi r3.1)) 6 (vb r4.1)) 7 (vb r5.1)) 8 (vi r6.1)) 9 (vi r7.1))), (4304, 9, [.rowc true (α := List UInt8) [] E_string o2.1.f_Command.f_Services]), (1000000, 72, [ls r7.2.f_l, vb r7.2.f_bad])]) (by kernel_rfl)) ?_
  refine To.keep (kk := [4]) (kl := [4, 1000000]) (K' := [(4, .own 4 0)]) (L' := [(4, 36, (List.set (List.set (List.set (List.set (List.set (E_script_Step o2.1) 5 (vi r3.1)) 6 (vb r4.1)) 7 (vb r5.1)) 8 (vi r6.1)) 9 (vi r7.1))), (1000000, 72, [ls r7.2.f_l, vb r7.2.f_bad])]) (by kernel_rfl) (by kernel_rfl) ?_
  cases h
  exact To.doneB hΓ [1000000] (by kernel_rfl) (by kernel_rfl)
def script_key_l1 (n : Nat) (v0 : List UInt8) (v5 : Int) : Nat → Int → Option (Sum (Unit) (Bool))
  | 0, _ => none
  | k + 1, v6 => if (decide (v6 < v5)) = true then (if (decide (0 ≤ v6 ∧ v6 < (List.length v0 : Int))) = true then (if ((!((decide ((((v0)[Int.toNat v6]?.getD 0).toNat : Int) < 33)) == false) || decide (0 ≤ v6 ∧ v6 < (List.length v0 : Int)))) = true then (lett ((bif (decide ((((v0)[Int.toNat v6]?.getD 0).toNat : Int) < 33)) then true else (decide ((((v0)[Int.toNat v6]?.getD 0).toNat : Int) > 126))) : Bool) fun x1 =>
  if x1 = true then (some (.inr false))
  else (script_key_l1 n v0 v5 k (IntKind.wrap .i64 (v6 + 1)))) else none) else none)
  else (some (.inl ()))
theorem ok_script_key_l1 (n : Nat) (v0 : List UInt8) (v5 : Int) {F0 : Fz} {w0 : Pt Tryd.prog} {Q : Exit → Act → World → Prop} (k : Nat) : ∀ (v6 : Int) (o : Sum (Unit) (Bool)), script_key_l1 n v0 v5 k v6 = some o → (Sum.elim (fun s => To 27 F0 w0 [(0, .str v0)] [] (.exit 0) Q) (fun s => To 27 F0 w0 [(2, vb s)] [] .ret Q)) o → WL Tryd.prog 27 F0 w0 [(0, .str v0), (5, vi v5), (6, vi v6)] [] (cI (cI (cB (cA (cB (cF Tryd.f77)))))) Q := by
  induction k with
  | zero => intro v6 o h; cases h
  | succ k ih =>
    intro v6 o h hQ
    rw [script_key_l1] at h
    refine WL.round ?_
    refine Wp.seq ?_
    refine rg [0, 5, 6, 7] [] (K' := [(0, .str v0), (5, vi v5), (6, vi v6), (7, vb (decide (v6 < v5)))]) (L' := []) (by kernel_rfl) ?_
    refine To.thenN (Wp.seq ?_)
    refine Wp.cond (b := (decide (v6 < v5))) (by kernel_rfl) (fun hb => ?_) (fun hb => ?_)
    · replace h := if_t hb h
      refine Wp.skip (To.thenN (Wp.seq (Wp.block (Wp.seq ?_))))
      refine rg [0, 3, 5, 6] [] (K' := [(0, .str v0), (3, vi v6), (5, vi v5), (6, vi v6)]) (L' := []) (by kernel_rfl) ?_
      refine To.thenN (Wp.seq ?_)
      obtain ⟨hc2, h⟩ := chk_of h
      obtain ⟨hc3, h⟩ := chk_of h
      obtain ⟨x1, hx1, h⟩ := lett_of h
      refine Wp.region hΓ [] [] [] [0, 5, 6, 18] [] (K' := [(0, .str v0), (5, vi v5), (6, vi v6), (18, vb (bif (decide ((((v0)[Int.toNat v6]?.getD 0).toNat : Int) < 33)) then true else (decide ((((v0)[Int.toNat v6]?.getD 0).toNat : Int) > 126))))]) (L' := []) (ob := [(decide (0 ≤ v6 ∧ v6 < (List.length v0 : Int))) = true, (!((decide ((((v0)[Int.toNat v6]?.getD 0).toNat : Int) < 33)) == false) || decide (0 ≤ v6 ∧ v6 < (List.length v0 : Int))) = true]) (by kernel_rfl) (AllP.cons hc2 (AllP.cons hc3 AllP.nil)) ?_
      refine To.eq (K' := [(0, .str v0), (5, vi v5), (6, vi v6), (18, vb x1)]) (L' := []) (by cases hx1; rfl) (by cases hx1; rfl) ?_
      refine To.thenN ?_
      refine Wp.cond (b := x1) (by kernel_rfl) (fun hb => ?_) (fun hb => ?_)
      · replace h := if_t hb h
        refine Wp.seq ?_
        refine rg [2] [] (K' := [(2, vb false)]) (L' := []) (by kernel_rfl) ?_
        refine To.thenN ?_
        refine Wp.ret ?_
        refine To.blockR ?_
        refine To.thenR ?_
        refine To.thenR ?_
        refine To.keep (kk := [2]) (kl := []) (K' := [(2, vb false)]) (L' := []) (by kernel_rfl) (by kernel_rfl) ?_
        cases h
        exact hQ
      · replace h := if_f hb h
        refine Wp.skip ?_
        refine To.blockN ?_
        refine To.thenN ?_
        refine rg [0, 5, 6] [] (K' := [(0, .str v0), (5, vi v5), (6, vi (IntKind.wrap .i64 (v6 + 1)))]) (L' := []) (by kernel_rfl) ?_
        refine To.keep (kk := [0, 5, 6]) (kl := []) (K' := [(0, .str v0), (5, vi v5), (6, vi (IntKind.wrap .i64 (v6 + 1)))]) (L' := []) (by kernel_rfl) (by kernel_rfl) ?_
        refine To.again ?_
        exact ih (IntKind.wrap .i64 (v6 + 1)) _ h hQ
    · replace h := if_f hb h
      refine Wp.exit ?_
      refine To.thenX ?_
      refine To.thenX ?_
      refine To.keep (kk := [0]) (kl := []) (K' := [(0, .str v0)]) (L' := []) (by kernel_rfl) (by kernel_rfl) ?_
      cases h
      exact hQ
def script_key (n : Nat) (a0 : List UInt8) : Option (Bool) :=
  (script_key_l1 n a0 (List.length a0 : Int) n 0).bind fun o1 =>
  (Sum.elim (fun o1 => some (bif (!(a0 == [])) then (decide ((List.length a0 : Int) ≤ 64)) else false)) (fun o1 => some o1)) o1
theorem ok_script_key (n : Nat) (a0 : List UInt8) (r : Bool) (h : script_key n a0 = some r) : CallsX Tryd.prog 77 [.str a0] (vb r) := by
  unfold script_key at h
  refine callsX_of (fn := Tryd.f77) (by kernel_rfl) rfl (by kernel_rfl) (Nat.le_of_ble_eq_true (by kernel_rfl)) fun F0 w0 _ => ?_
  refine Wp.keep (kk := [0]) (kl := []) (K' := [(0, .str a0)]) (L' := []) (by kernel_rfl) (by kernel_rfl) ?_
  refine Wp.seq ?_
  refine rg [0] [] (K' := [(0, .str a0)]) (L' := []) (by kernel_rfl) ?_
  refine To.thenN (Wp.seq (Wp.seq ?_))
  refine rg [0, 5, 6] [] (K' := [(0, .str a0), (5, vi (List.length a0 : Int)), (6, vi 0)]) (L' := []) (by kernel_rfl) ?_
  refine To.thenN (Wp.block ?_)
  obtain ⟨o1, ho1, h⟩ := bind_of h
  refine Wp.keep (kk := [0, 5, 6]) (kl := []) (K' := [(0, .str a0), (5, vi (List.length a0 : Int)), (6, vi 0)]) (L' := []) (by kernel_rfl) (by kernel_rfl) ?_
  refine Wp.loopL ?_
  refine ok_script_key_l1 n a0 (List.length a0 : Int) n 0 o1 ho1 ?_
  rcases o1 with o1 | o1
  · replace h := sum_l h
    refine To.blockX ?_
    refine To.thenN (Wp.seq ?_)
    refine rg [2] [] (K' := [(2, vb (bif (!(a0 == [])) then (decide ((List.length a0 : Int) ≤ 64)) else false))]) (L' := []) (by kernel_rfl) ?_
    refine To.thenN ?_
    refine Wp.ret ?_
    refine To.keep (kk := [2]) (kl := []) (K' := [(2, vb (bif (!(a0 == [])) then (decide ((List.length a0 : Int) ≤ 64)) else false))]) (L' := []) (by kernel_rfl) (by kernel_rfl) ?_
    cases h
    exact To.done hΓ (by kernel_rfl)
  · replace h := sum_r h
    refine To.blockR ?_
    refine To.thenR ?_
    refine To.keep (kk := [2]) (kl := []) (K' := [(2, vb o1)]) (L' := []) (by kernel_rfl) (by kernel_rfl) ?_
    cases h
    exact To.done hΓ (by kernel_rfl)
def script_words_key__o0 (n : Nat) (h0 : S_script_words) : Option ((List UInt8) × S_script_words) :=
  (script_words_next__o0 n h0).bind fun r1 =>
  ((if (r1.2.f_bad == false) = true then script_key n r1.1 else some false)).bind fun r2 =>
  some (r1.1, (S_script_words.mk r1.2.f_l (bif r1.2.f_bad then true else (!r2))))
theorem ok_script_words_key__o0 (n : Nat) (h0 : S_script_words) (r : (List UInt8) × S_script_words) (h : script_words_key__o0 n h0 = some r) : CallsB Tryd.prog 56 [.own 1000000 0] [(1000000, 72, [ls h0.f_l, vb h0.f_bad])] (.str r.1) [(1000000, 72, [ls r.2.f_l, vb r.2.f_bad])] := by
  unfold script_words_key__o0 at h
  refine callsB_of (fn := Tryd.f56) (by kernel_rfl) rfl (by kernel_rfl) (Nat.le_of_ble_eq_true (by kernel_rfl)) fun F0 w0 => ?_
  refine Wp.keep (kk := [0]) (kl := [1000000]) (K' := [(0, .own 1000000 0)]) (L' := [(1000000, 72, [ls h0.f_l, vb h0.f_bad])]) (by kernel_rfl) (by kernel_rfl) ?_
  refine Wp.seq ?_
  refine rg [0] [1000000] (K' := [(0, .own 1000000 0)]) (L' := [(1000000, 72, [ls h0.f_l, vb h0.f_bad])]) (by kernel_rfl) ?_
  refine To.thenN (Wp.seq ?_)
  obtain ⟨r1, hr1, h⟩ := bind_of h
  refine Wp.region hΓ [] [] [(1, ⟨[(1000000, 1000000)], [(1000000, 1000000)], [.own 1000000 0], [(1000000, 72, [ls h0.f_l, vb h0.f_bad])], .str r1.1, [(1000000, 72, [ls r1.2.f_l, vb r1.2.f_bad])]⟩)] [0, 3] [1000000] (K' := [(0, .own 1000000 0), (3, .str r1.1)]) (L' := [(1000000, 72, [ls r1.2.f_l, vb r1.2.f_bad])]) (ob := [CbOb (CallsB Tryd.prog) 29 [.own 1000000 0] [some (72, [ls h0.f_l, vb h0.f_bad])] ⟨[(1000000, 1000000)], [(1000000, 1000000)], [.own 1000000 0], [(1000000, 72, [ls h0.f_l, vb h0.f_bad])], .str r1.1, [(1000000, 72, [ls r1.2.f_l, vb r1.2.f_bad])]⟩]) (by kernel_rfl) (AllP.cons (⟨(ok_script_words_next__o0 n h0 _ hr1), by kernel_rfl, by kernel_rfl⟩) AllP.nil) ?_
  refine To.thenN (Wp.seq ?_)
  obtain ⟨r2, hr2, h⟩ := bind_of h
  refine Wp.region hΓ [] [(7, vb r2)] [] [3] [1000000] (K' := [(3, .str r1.1)]) (L' := [(1000000, 72, [ls r1.2.f_l, vb (bif r1.2.f_bad then true else (!r2))])]) (ob := [((r1.2.f_bad == false) = true → CX Tryd.prog 77 [.str r1.1] (vb r2))]) (by kernel_rfl) (AllP.cons (fun hg => cx (ok_script_key n r1.1 _ (if_t hg hr2))) AllP.nil) ?_
  refine To.thenN (Wp.seq ?_)
  refine rg [2] [1000000] (K' := [(2, .str r1.1)]) (L' := [(1000000, 72, [ls r1.2.f_l, vb (bif r1.2.f_bad then true else (!r2))])]) (by kernel_rfl) ?_
  refine To.thenN ?_
  refine Wp.ret ?_
  refine To.keep (kk := [2]) (kl := [1000000]) (K' := [(2, .str r1.1)]) (L' := [(1000000, 72, [ls r1.2.f_l, vb (bif r1.2.f_bad then true else (!r2))])]) (by kernel_rfl) (by kernel_rfl) ?_
  cases h
  exact To.doneB hΓ [1000000] (by kernel_rfl) (by kernel_rfl)
def name_Project_1 (a0 : Int) : Bool :=
  (bif (name_small a0) then true else (name_number a0))
theorem ok_name_Project_1 (a0 : Int) (r : Bool) (h : name_Project_1 a0 = r) : CallsX Tryd.prog 86 [.val (.int .u8 a0)] (vb r) := by
  unfold name_Project_1 at h
  refine callsX_of (fn := Tryd.f86) (by kernel_rfl) rfl (by kernel_rfl) (Nat.le_of_ble_eq_true (by kernel_rfl)) fun F0 w0 _ => ?_
  refine Wp.keep (kk := [0]) (kl := []) (K' := [(0, .val (.int .u8 a0))]) (L' := []) (by kernel_rfl) (by kernel_rfl) ?_
  refine Wp.seq ?_
  refine rg [0] [] (K' := [(0, .val (.int .u8 a0))]) (L' := []) (by kernel_rfl) ?_
  refine To.thenN (Wp.seq ?_)
  refine Wp.region hΓ [] [(1, vb (name_small a0)), (4, vb (name_number a0))] [] [2] [] (K' := [(2, vb (bif (name_small a0) then true else (name_number a0)))]) (L' := []) (ob := [(true = true → CX Tryd.prog 85 [.val (.int .u8 a0)] (vb (name_small a0))), (((name_small a0) == false) = true → CX Tryd.prog 73 [.val (.int .u8 a0)] (vb (name_number a0)))]) (by kernel_rfl) (AllP.cons (fun _ => cx (ok_name_small a0 _ rfl)) (AllP.cons (fun _ => cx (ok_name_number a0 _ rfl)) AllP.nil)) ?_
  refine To.thenN ?_
  refine Wp.ret ?_
  refine To.keep (kk := [2]) (kl := []) (K' := [(2, vb (bif (name_small a0) then true else (name_number a0)))]) (L' := []) (by kernel_rfl) (by kernel_rfl) ?_
  cases h
  exact To.done hΓ (by kernel_rfl)
def name_Project_2 (a0 : Int) : Bool :=
  (bif (bif (bif (name_small a0) then true else (name_number a0)) then true else (a0 == 45)) then true else (a0 == 95))
theorem ok_name_Project_2 (a0 : Int) (r : Bool) (h : name_Project_2 a0 = r) : CallsX Tryd.prog 87 [.val (.int .u8 a0)] (vb r) := by
  unfold name_Project_2 at h
  refine callsX_of (fn := Tryd.f87) (by kernel_rfl) rfl (by kernel_rfl) (Nat.le_of_ble_eq_true (by kernel_rfl)) fun F0 w0 _ => ?_
  refine Wp.keep (kk := [0]) (kl := []) (K' := [(0, .val (.int .u8 a0))]) (L' := []) (by kernel_rfl) (by kernel_rfl) ?_
  refine Wp.seq ?_
  refine rg [0] [] (K' := [(0, .val (.int .u8 a0))]) (L' := []) (by kernel_rfl) ?_
  refine To.thenN (Wp.seq ?_)
  refine Wp.region hΓ [] [(1, vb (name_small a0)), (4, vb (name_number a0))] [] [2] [] (K' := [(2, vb (bif (bif (bif (name_small a0) then true else (name_number a0)) then true else (a0 == 45)) then true else (a0 == 95)))]) (L' := []) (ob := [(true = true → CX Tryd.prog 85 [.val (.int .u8 a0)] (vb (name_small a0))), (((name_small a0) == false) = true → CX Tryd.prog 73 [.val (.int .u8 a0)] (vb (name_number a0)))]) (by kernel_rfl) (AllP.cons (fun _ => cx (ok_name_small a0 _ rfl)) (AllP.cons (fun _ => cx (ok_name_number a0 _ rfl)) AllP.nil)) ?_
  refine To.thenN ?_
  refine Wp.ret ?_
  refine To.keep (kk := [2]) (kl := []) (K' := [(2, vb (bif (bif (bif (name_small a0) then true else (name_number a0)) then true else (a0 == 45)) then true else (a0 == 95)))]) (L' := []) (by kernel_rfl) (by kernel_rfl) ?_
  cases h
  exact To.done hΓ (by kernel_rfl)
def name_of__name_Project_1__name_Project_2_l1 (n : Nat) (v0 : List UInt8) : Nat → Int → Option (Sum (Unit) (Bool))
  | 0, _ => none
  | k + 1, v7 => if (decide (v7 < (List.length v0 : Int))) = true then (if (decide (0 ≤ v7 ∧ v7 < (List.length v0 : Int))) = true then (if (!(name_Project_2 (((v0)[Int.toNat v7]?.getD 0).toNat : Int))) = true then (some (.inr false))
  else (name_of__name_Project_1__name_Project_2_l1 n v0 k (IntKind.wrap .i64 (v7 + 1)))) else none)
  else (some (.inl ()))
theorem ok_name_of__name_Project_1__name_Project_2_l1 (n : Nat) (v0 : List UInt8) {F0 : Fz} {w0 : Pt Tryd.prog} {Q : Exit → Act → World → Prop} (k : Nat) : ∀ (v7 : Int) (o : Sum (Unit) (Bool)), name_of__name_Project_1__name_Project_2_l1 n v0 k v7 = some o → (Sum.elim (fun s => To 35 F0 w0 [] [] (.exit 0) Q) (fun s => To 35 F0 w0 [(6, vb s)] [] .ret Q)) o → WL Tryd.prog 35 F0 w0 [(0, .str v0), (2, .fn 87 []), (7, vi v7)] [] (cI (cI (cB (cA (cB (cB (cF Tryd.f70))))))) Q := by
  induction k with
  | zero => intro v7 o h; cases h
  | succ k ih =>
    intro v7 o h hQ
    rw [name_of__name_Project_1__name_Project_2_l1] at h
    refine WL.round ?_
    refine Wp.seq (Wp.seq ?_)
    refine rg [0, 2, 7, 26] [] (K' := [(0, .str v0), (2, .fn 87 []), (7, vi v7), (26, vb (decide (v7 < (List.length v0 : Int))))]) (L' := []) (by kernel_rfl) ?_
    refine To.thenN ?_
    refine Wp.cond (b := (decide (v7 < (List.length v0 : Int)))) (by kernel_rfl) (fun hb => ?_) (fun hb => ?_)
    · replace h := if_t hb h
      refine Wp.skip (To.thenN (Wp.seq (Wp.block (Wp.seq ?_))))
      obtain ⟨hc2, h⟩ := chk_of h
      refine Wp.region hΓ [] [(4, vb (name_Project_2 (((v0)[Int.toNat v7]?.getD 0).toNat : Int)))] [] [0, 2, 7, 34] [] (K' := [(0, .str v0), (2, .fn 87 []), (7, vi v7), (34, vb (!(name_Project_2 (((v0)[Int.toNat v7]?.getD 0).toNat : Int))))]) (L' := []) (ob := [(decide (0 ≤ v7 ∧ v7 < (List.length v0 : Int))) = true, (true = true → CX Tryd.prog 87 [.val (.int .u8 (((v0)[Int.toNat v7]?.getD 0).toNat : Int))] (vb (name_Project_2 (((v0)[Int.toNat v7]?.getD 0).toNat : Int))))]) (by kernel_rfl) (AllP.cons hc2 (AllP.cons (fun _ => cx (ok_name_Project_2 (((v0)[Int.toNat v7]?.getD 0).toNat : Int) _ rfl)) AllP.nil)) ?_
      refine To.thenN ?_
      refine Wp.cond (b := (!(name_Project_2 (((v0)[Int.toNat v7]?.getD 0).toNat : Int)))) (by kernel_rfl) (fun hb => ?_) (fun hb => ?_)
      · replace h := if_t hb h
        refine Wp.seq ?_
        refine rg [6] [] (K' := [(6, vb false)]) (L' := []) (by kernel_rfl) ?_
        refine To.thenN ?_
        refine Wp.ret ?_
        refine To.blockR ?_
        refine To.thenR ?_
        refine To.thenR ?_
        refine To.keep (kk := [6]) (kl := []) (K' := [(6, vb false)]) (L' := []) (by kernel_rfl) (by kernel_rfl) ?_
        cases h
        exact hQ
      · replace h := if_f hb h
        refine Wp.skip ?_
        refine To.blockN ?_
        refine To.thenN ?_
        refine rg [0, 2, 7] [] (K' := [(0, .str v0), (2, .fn 87 []), (7, vi (IntKind.wrap .i64 (v7 + 1)))]) (L' := []) (by kernel_rfl) ?_
        refine To.keep (kk := [0, 2, 7]) (kl := []) (K' := [(0, .str v0), (2, .fn 87 []), (7, vi (IntKind.wrap .i64 (v7 + 1)))]) (L' := []) (by kernel_rfl) (by kernel_rfl) ?_
        refine To.again ?_
        exact ih (IntKind.wrap .i64 (v7 + 1)) _ h hQ
    · replace h := if_f hb h
      refine Wp.exit ?_
      refine To.thenX ?_
      refine To.thenX ?_
      refine To.keep (kk := []) (kl := []) (K' := []) (L' := []) (by kernel_rfl) (by kernel_rfl) ?_
      cases h
      exact hQ
def name_of__name_Project_1__name_Project_2 (n : Nat) (a0 : List UInt8) : Option (Bool) :=
  if ((!((bif (decide ((List.length a0 : Int) < 1)) then true else (decide ((List.length a0 : Int) > 24))) == false) || decide (0 ≤ (0 : Int) ∧ (0 : Int) < (List.length a0 : Int)))) = true then (lett ((bif (bif (decide ((List.length a0 : Int) < 1)) then true else (decide ((List.length a0 : Int) > 24))) then true else (!(name_Project_1 (((a0)[Int.toNat 0]?.getD 0).toNat : Int)))) : Bool) fun x1 =>
  if x1 = true then some false
  else ((name_of__name_Project_1__name_Project_2_l1 n a0 n 1).bind fun o2 =>
  (Sum.elim (fun o2 => some true) (fun o2 => some o2)) o2)) else none
theorem ok_name_of__name_Project_1__name_Project_2 (n : Nat) (a0 : List UInt8) (r : Bool) (h : name_of__name_Project_1__name_Project_2 n a0 = some r) : CallsX Tryd.prog 70 [.str a0, .fn 86 [], .fn 87 []] (vb r) := by
  unfold name_of__name_Project_1__name_Project_2 at h
  refine callsX_of (fn := Tryd.f70) (by kernel_rfl) rfl (by kernel_rfl) (Nat.le_of_ble_eq_true (by kernel_rfl)) fun F0 w0 _ => ?_
  refine Wp.keep (kk := [0, 1, 2]) (kl := []) (K' := [(0, .str a0), (1, .fn 86 []), (2, .fn 87 [])]) (L' := []) (by kernel_rfl) (by kernel_rfl) ?_
  refine Wp.seq ?_
  refine rg [0, 1, 2] [] (K' := [(0, .str a0), (1, .fn 86 []), (2, .fn 87 [])]) (L' := []) (by kernel_rfl) ?_
  refine To.thenN (Wp.seq (Wp.seq ?_))
  obtain ⟨hc3, h⟩ := chk_of h
  obtain ⟨x1, hx1, h⟩ := lett_of h
  refine Wp.region hΓ [] [(12, vb (name_Project_1 (((a0)[Int.toNat 0]?.getD 0).toNat : Int)))] [] [0, 2, 22] [] (K' := [(0, .str a0), (2, .fn 87 []), (22, vb (bif (bif (decide ((List.length a0 : Int) < 1)) then true else (decide ((List.length a0 : Int) > 24))) then true else (!(name_Project_1 (((a0)[Int.toNat 0]?.getD 0).toNat : Int)))))]) (L' := []) (ob := [(!((bif (decide ((List.length a0 : Int) < 1)) then true else (decide ((List.length a0 : Int) > 24))) == false) || decide (0 ≤ (0 : Int) ∧ (0 : Int) < (List.length a0 : Int))) = true, (((bif (decide ((List.length a0 : Int) < 1)) then true else (decide ((List.length a0 : Int) > 24))) == false) = true → CX Tryd.prog 86 [.val (.int .u8 (((a0)[Int.toNat 0]?.getD 0).toNat : Int))] (vb (name_Project_1 (((a0)[Int.toNat 0]?.getD 0).toNat : Int))))]) (by kernel_rfl) (AllP.cons hc3 (AllP.cons (fun _ => cx (ok_name_Project_1 (((a0)[Int.toNat 0]?.getD 0).toNat : Int) _ rfl)) AllP.nil)) ?_
  refine To.eq (K' := [(0, .str a0), (2, .fn 87 []), (22, vb x1)]) (L' := []) (by cases hx1; rfl) (by cases hx1; rfl) ?_
  refine To.thenN ?_
  refine Wp.cond (b := x1) (by kernel_rfl) (fun hb => ?_) (fun hb => ?_)
  · replace h := if_t hb h
    refine Wp.seq ?_
    refine rg [6] [] (K' := [(6, vb false)]) (L' := []) (by kernel_rfl) ?_
    refine To.thenN ?_
    refine Wp.ret ?_
    refine To.thenR ?_
    refine To.keep (kk := [6]) (kl := []) (K' := [(6, vb false)]) (L' := []) (by kernel_rfl) (by kernel_rfl) ?_
    cases h
    exact To.done hΓ (by kernel_rfl)
  · replace h := if_f hb h
    refine Wp.skip (To.thenN (Wp.seq (Wp.seq ?_)))
    refine rg [0, 2, 7] [] (K' := [(0, .str a0), (2, .fn 87 []), (7, vi 1)]) (L' := []) (by kernel_rfl) ?_
    refine To.thenN (Wp.block ?_)
    obtain ⟨o2, ho2, h⟩ := bind_of h
    refine Wp.keep (kk := [0, 2, 7]) (kl := []) (K' := [(0, .str a0), (2, .fn 87 []), (7, vi 1)]) (L' := []) (by kernel_rfl) (by kernel_rfl) ?_
    refine Wp.loopL ?_
    refine ok_name_of__name_Project_1__name_Project_2_l1 n a0 n 1 o2 ho2 ?_
    rcases o2 with o2 | o2
    · replace h := sum_l h
      refine To.blockX ?_
      refine To.thenN (Wp.seq ?_)
      refine rg [6] [] (K' := [(6, vb true)]) (L' := []) (by kernel_rfl) ?_
      refine To.thenN ?_
      refine Wp.ret ?_
      refine To.keep (kk := [6]) (kl := []) (K' := [(6, vb true)]) (L' := []) (by kernel_rfl) (by kernel_rfl) ?_
      cases h
      exact To.done hΓ (by kernel_rfl)
    · replace h := sum_r h
      refine To.blockR ?_
      refine To.thenR ?_
      refine To.keep (kk := [6]) (kl := []) (K' := [(6, vb o2)]) (L' := []) (by kernel_rfl) (by kernel_rfl) ?_
      cases h
      exact To.done hΓ (by kernel_rfl)
def name_Project (n : Nat) (a0 : List UInt8) : Option (Bool) :=
  (name_of__name_Project_1__name_Project_2 n a0).bind fun r1 =>
  some r1
theorem ok_name_Project (n : Nat) (a0 : List UInt8) (r : Bool) (h : name_Project n a0 = some r) : CallsX Tryd.prog 76 [.str a0] (vb r) := by
  unfold name_Project at h
  refine callsX_of (fn := Tryd.f76) (by kernel_rfl) rfl (by kernel_rfl) (Nat.le_of_ble_eq_true (by kernel_rfl)) fun F0 w0 _ => ?_
  refine Wp.keep (kk := [0]) (kl := []) (K' := [(0, .str a0)]) (L' := []) (by kernel_rfl) (by kernel_rfl) ?_
  refine Wp.seq ?_
  refine rg [0] [] (K' := [(0, .str a0)]) (L' := []) (by kernel_rfl) ?_
  refine To.thenN (Wp.seq ?_)
  obtain ⟨r1, hr1, h⟩ := bind_of h
  refine Wp.region hΓ [] [(1, vb r1)] [] [2] [] (K' := [(2, vb r1)]) (L' := []) (ob := [(true = true → CX Tryd.prog 70 [.str a0, .fn 86 [], .fn 87 []] (vb r1))]) (by kernel_rfl) (AllP.cons (fun _ => cx (ok_name_of__name_Project_1__name_Project_2 n a0 _ hr1)) AllP.nil) ?_
  refine To.thenN ?_
  refine Wp.ret ?_
  refine To.keep (kk := [2]) (kl := []) (K' := [(2, vb r1)]) (L' := []) (by kernel_rfl) (by kernel_rfl) ?_
  cases h
  exact To.done hΓ (by kernel_rfl)
def script_words_kept__o0 (n : Nat) (a1 : Int) (h0 : S_script_words) : Option (S_api_Call × S_script_words) :=
  (script_words_key__o0 n h0).bind fun r1 =>
  (script_words_next__o0 n r1.2).bind fun r2 =>
  ((if (r2.2.f_bad == false) = true then name_Project n r2.1 else some false)).bind fun r3 =>
  some ((S_api_Call.mk a1 r1.1 0 (S_api_Spec.mk [] r2.1 [] 0 [] [] [] (S_api_Check.mk [] 0 0 0) 0 0)), (S_script_words.mk r2.2.f_l (bif r2.2.f_bad then true else (!r3))))
theorem ok_script_words_kept__o0 (n : Nat) (a1 : Int) (h0 : S_script_words) (r : S_api_Call × S_script_words) (h : script_words_kept__o0 n a1 h0 = some r) : CallsB Tryd.prog 55 [.own 1000000 0, vi a1] [(1000000, 72, [ls h0.f_l, vb h0.f_bad])] (.agg [vi r.1.f_Kind, .str r.1.f_Name, vi r.1.f_Id, .str r.1.f_Spec.f_Name, .str r.1.f_Spec.f_Project, .str r.1.f_Spec.f_Service, vi r.1.f_Spec.f_Number, .str r.1.f_Spec.f_Hash, ls r.1.f_Spec.f_Nets, ls r.1.f_Spec.f_Vols, .str r.1.f_Spec.f_Health.f_Test, vi r.1.f_Spec.f_Health.f_Every, vi r.1.f_Spec.f_Health.f_Start, vi r.1.f_Spec.f_Health.f_Retries, vi r.1.f_Spec.f_Restart, vi r.1.f_Spec.f_Tries]) [(1000000, 72, [ls r.2.f_l, vb r.2.f_bad])] := by
  unfold script_words_kept__o0 at h
  refine callsB_of (fn := Tryd.f55) (by kernel_rfl) rfl (by kernel_rfl) (Nat.le_of_ble_eq_true (by kernel_rfl)) fun F0 w0 => ?_
  refine Wp.keep (kk := [0, 1]) (kl := [1000000]) (K' := [(0, .own 1000000 0), (1, vi a1)]) (L' := [(1000000, 72, [ls h0.f_l, vb h0.f_bad])]) (by kernel_rfl) (by kernel_rfl) ?_
  refine Wp.seq ?_
  refine rg [0, 1, 4] [4, 1000000] (K' := [(0, .own 1000000 0), (1, vi a1), (4, .own 4 0)]) (L' := [(4, 30, [vi 0, .str [], vi 0, .str [], .str [], .str [], vi 0, .str [], .val (.slice none 0 0), .val (.slice none 0 0), .str [], vi 0, vi 0, vi 0, vi 0, vi 0]), (1000000, 72, [ls h0.f_l, vb h0.f_bad])]) (by kernel_rfl) ?_
  refine To.thenN (Wp.seq ?_)
  obtain ⟨r1, hr1, h⟩ := bind_of h
  obtain ⟨r2, hr2, h⟩ := bind_of h
  refine Wp.region hΓ [] [] [(2, ⟨[(1000000, 1000000)], [(1000000, 1000000)], [.own 1000000 0], [(1000000, 72, [ls h0.f_l, vb h0.f_bad])], .str r1.1, [(1000000, 72, [ls r1.2.f_l, vb r1.2.f_bad])]⟩), (4, ⟨[(1000000, 1000000)], [(1000000, 1000000)], [.own 1000000 0], [(1000000, 72, [ls r1.2.f_l, vb r1.2.f_bad])], .str r2.1, [(1000000, 72, [ls r2.2.f_l, vb r2.2.f_bad])]⟩)] [0, 4, 5] [4, 5, 1000000] (K' := [(0, .own 1000000 0), (4, .own 4 0), (5, .own 5 0)]) (L' := [(4, 30, [vi 0, .str [], vi 0, .str [], .str [], .str [], vi 0, .str [], .val (.slice none 0 0), .val (.slice none 0 0), .str [], vi 0, vi 0, vi 0, vi 0, vi 0]), (5, 30, [vi a1, .str r1.1, vi 0, .str [], .str r2.1, .str [], vi 0, .str [], .val (.slice none 0 0), .val (.slice none 0 0), .str [], vi 0, vi 0, vi 0, vi 0, vi 0]), (1000000, 72, [ls r2.2.f_l, vb r2.2.f_bad])]) (ob := [CbOb (CallsB Tryd.prog) 56 [.own 1000000 0] [some (72, [ls h0.f_l, vb h0.f_bad])] ⟨[(1000000, 1000000)], [(1000000, 1000000)], [.own 1000000 0], [(1000000, 72, [ls h0.f_l, vb h0.f_bad])], .str r1.1, [(1000000, 72, [ls r1.2.f_l, vb r1.2.f_bad])]⟩, CbOb (CallsB Tryd.prog) 29 [.own 1000000 0] [some (72, [ls r1.2.f_l, vb r1.2.f_bad])] ⟨[(1000000, 1000000)], [(1000000, 1000000)], [.own 1000000 0], [(1000000, 72, [ls r1.2.f_l, vb r1.2.f_bad])], .str r2.1, [(1000000, 72, [ls r2.2.f_l, vb r2.2.f_bad])]⟩]) (by kernel_rfl) (AllP.cons (⟨(ok_script_words_key__o0 n h0 _ hr1), by kernel_rfl, by kernel_rfl⟩) (AllP.cons (⟨(ok_script_words_next__o0 n r1.2 _ hr2), by kernel_rfl, by kernel_rfl⟩) AllP.nil)) ?_
  refine To.thenN (Wp.seq ?_)
  obtain ⟨r3, hr3, h⟩ := bind_of h
  refine Wp.region hΓ [] [(9, vb r3)] [] [4, 5] [4, 5, 1000000] (K' := [(4, .own 4 0), (5, .own 5 0)]) (L' := [(4, 30, [vi 0, .str [], vi 0, .str [], .str [], .str [], vi 0, .str [], .val (.slice none 0 0), .val (.slice none 0 0), .str [], vi 0, vi 0, vi 0, vi 0, vi 0]), (5, 30, [vi a1, .str r1.1, vi 0, .str [], .str r2.1, .str [], vi 0, .str [], .val (.slice none 0 0), .val (.slice none 0 0), .str [], vi 0, vi 0, vi 0, vi 0, vi 0]), (1000000, 72, [ls r2.2.f_l, vb (bif r2.2.f_bad then true else (!r3))])]) (ob := [((r2.2.f_bad == false) = true → CX Tryd.prog 76 [.str r2.1] (vb r3))]) (by kernel_rfl) (AllP.cons (fun hg => cx (ok_name_Project n r2.1 _ (if_t hg hr3))) AllP.nil) ?_
  refine To.thenN (Wp.seq ?_)
  refine rg [4] [4, 1000000] (K' := [(4, .own 4 0)]) (L' := [(4, 30, [vi a1, .str r1.1, vi 0, .str [], .str r2.1, .str [], vi 0, .str [], .val (.slice none 0 0), .val (.slice none 0 0), .str [], vi 0, vi 0, vi 0, vi 0, vi 0]), (1000000, 72, [ls r2.2.f_l, vb (bif r2.2.f_bad then true else (!r3))])]) (by kernel_rfl) ?_
  refine To.thenN ?_
  refine Wp.ret ?_
  refine To.keep (kk := [4]) (kl := [4, 1000000]) (K' := [(4, .own 4 0)]) (L' := [(4, 30, [vi a1, .str r1.1, vi 0, .str [], .str r2.1, .str [], vi 0, .str [], .val (.slice none 0 0), .val (.slice none 0 0), .str [], vi 0, vi 0, vi 0, vi 0, vi 0]), (1000000, 72, [ls r2.2.f_l, vb (bif r2.2.f_bad then true else (!r3))])]) (by kernel_rfl) (by kernel_rfl) ?_
  refine To.weak (K' := [(4, .own 4 0)]) (L' := [(4, 30, [vi a1, .str r1.1, vi 0, .str [], .str r2.1, .str [], vi 0, .str [], ls [], ls [], .str [], vi 0, vi 0, vi 0, vi 0, vi 0]), (1000000, 72, [ls r2.2.f_l, vb (bif r2.2.f_bad then true else (!r3))])]) (.cons (.refl _) .nil) (.cons (.cons (.refl _) (.cons (.refl _) (.cons (.refl _) (.cons (.refl _) (.cons (.refl _) (.cons (.refl _) (.cons (.refl _) (.cons (.refl _) (.cons (.zero _ _) (.cons (.zero _ _) (.cons (.refl _) (.cons (.refl _) (.cons (.refl _) (.cons (.refl _) (.cons (.refl _) (.cons (.refl _) .nil)))))))))))))))) (.cons (.cons (.refl _) (.cons (.refl _) .nil)) .nil)) ?_
  cases h
  exact To.doneB hΓ [1000000] (by kernel_rfl) (by kernel_rfl)
def E_api_Call : S_api_Call → List D := fun x => [.val (.int .i64 x.f_Kind), .str x.f_Name, .val (.int .i64 x.f_Id), .str x.f_Spec.f_Name, .str x.f_Spec.f_Project, .str x.f_Spec.f_Service, .val (.int .i64 x.f_Spec.f_Number), .str x.f_Spec.f_Hash, .recs (α := List UInt8) [] E_string x.f_Spec.f_Nets, .recs (α := List UInt8) [] E_string x.f_Spec.f_Vols, .str x.f_Spec.f_Health.f_Test, .val (.int .i64 x.f_Spec.f_Health.f_Every), .val (.int .i64 x.f_Spec.f_Health.f_Start), .val (.int .i64 x.f_Spec.f_Health.f_Retries), .val (.int .i64 x.f_Spec.f_Restart), .val (.int .i64 x.f_Spec.f_Tries)]
def script_words_call__o0 (n : Nat) (h0 : S_script_words) : Option (S_api_Call × S_script_words) :=
  (script_words_next__o0 n h0).bind fun r1 =>
  if (r1.1 == [109, 97, 107, 101, 45, 110, 101, 116]) = true then ((script_words_kept__o0 n 1 r1.2).bind fun r2 =>
  some (r2.1, r2.2))
  else (if (r1.1 == [109, 97, 107, 101, 45, 118, 111, 108]) = true then ((script_words_kept__o0 n 2 r1.2).bind fun r3 =>
  some (r3.1, r3.2))
  else (if (r1.1 == [100, 114, 111, 112, 45, 110, 101, 116]) = true then ((script_words_key__o0 n r1.2).bind fun r4 =>
  some ((S_api_Call.mk 3 r4.1 0 (S_api_Spec.mk [] [] [] 0 [] [] [] (S_api_Check.mk [] 0 0 0) 0 0)), r4.2))
  else (if (r1.1 == [100, 114, 111, 112, 45, 118, 111, 108]) = true then ((script_words_key__o0 n r1.2).bind fun r5 =>
  some ((S_api_Call.mk 4 r5.1 0 (S_api_Spec.mk [] [] [] 0 [] [] [] (S_api_Check.mk [] 0 0 0) 0 0)), r5.2))
  else (if (r1.1 == [115, 116, 97, 114, 116]) = true then ((script_words_number__o0 n r1.2).bind fun r6 =>
  some ((S_api_Call.mk 6 [] r6.1 (S_api_Spec.mk [] [] [] 0 [] [] [] (S_api_Check.mk [] 0 0 0) 0 0)), r6.2))
  else (if (r1.1 == [115, 116, 111, 112]) = true then ((script_words_number__o0 n r1.2).bind fun r7 =>
  some ((S_api_Call.mk 7 [] r7.1 (S_api_Spec.mk [] [] [] 0 [] [] [] (S_api_Check.mk [] 0 0 0) 0 0)), r7.2))
  else (if (r1.1 == [100, 114, 111, 112]) = true then ((script_words_number__o0 n r1.2).bind fun r8 =>
  some ((S_api_Call.mk 8 [] r8.1 (S_api_Spec.mk [] [] [] 0 [] [] [] (S_api_Check.mk [] 0 0 0) 0 0)), r8.2))
  else (some ((S_api_Call.mk 0 [] 0 (S_api_Spec.mk [] [] [] 0 [] [] [] (S_api_Check.mk [] 0 0 0) 0 0)), (S_script_words.mk r1.2.f_l true)))))))))
theorem ok_script_words_call__o0 (n : Nat) (h0 : S_script_words) (r : S_api_Call × S_script_words) (h : script_words_call__o0 n h0 = some r) : CallsB Tryd.prog 33 [.own 1000000 0] [(1000000, 72, [ls h0.f_l, vb h0.f_bad])] (.agg [vi r.1.f_Kind, .str r.1.f_Name, vi r.1.f_Id, .str r.1.f_Spec.f_Name, .str r.1.f_Spec.f_Project, .str r.1.f_Spec.f_Service, vi r.1.f_Spec.f_Number, .str r.1.f_Spec.f_Hash, ls r.1.f_Spec.f_Nets, ls r.1.f_Spec.f_Vols, .str r.1.f_Spec.f_Health.f_Test, vi r.1.f_Spec.f_Health.f_Every, vi r.1.f_Spec.f_Health.f_Start, vi r.1.f_Spec.f_Health.f_Retries, vi r.1.f_Spec.f_Restart, vi r.1.f_Spec.f_Tries]) [(1000000, 72, [ls r.2.f_l, vb r.2.f_bad])] := by
  unfold script_words_call__o0 at h
  refine callsB_of (fn := Tryd.f33) (by kernel_rfl) rfl (by kernel_rfl) (Nat.le_of_ble_eq_true (by kernel_rfl)) fun F0 w0 => ?_
  refine Wp.keep (kk := [0]) (kl := [1000000]) (K' := [(0, .own 1000000 0)]) (L' := [(1000000, 72, [ls h0.f_l, vb h0.f_bad])]) (by kernel_rfl) (by kernel_rfl) ?_
  refine Wp.seq ?_
  refine rg [0, 2] [2, 1000000] (K' := [(0, .own 1000000 0), (2, .own 2 0)]) (L' := [(2, 30, [vi 0, .str [], vi 0, .str [], .str [], .str [], vi 0, .str [], .val (.slice none 0 0), .val (.slice none 0 0), .str [], vi 0, vi 0, vi 0, vi 0, vi 0]), (1000000, 72, [ls h0.f_l, vb h0.f_bad])]) (by kernel_rfl) ?_
  refine To.thenN (Wp.seq (Wp.seq ?_))
  obtain ⟨r1, hr1, h⟩ := bind_of h
  refine Wp.region hΓ [] [] [(1, ⟨[(1000000, 1000000)], [(1000000, 1000000)], [.own 1000000 0], [(1000000, 72, [ls h0.f_l, vb h0.f_bad])], .str r1.1, [(1000000, 72, [ls r1.2.f_l, vb r1.2.f_bad])]⟩)] [0, 2, 4] [2, 1000000] (K' := [(0, .own 1000000 0), (2, .own 2 0), (4, .str r1.1)]) (L' := [(2, 30, [vi 0, .str [], vi 0, .str [], .str [], .str [], vi 0, .str [], .val (.slice none 0 0), .val (.slice none 0 0), .str [], vi 0, vi 0, vi 0, vi 0, vi 0]), (1000000, 72, [ls r1.2.f_l, vb r1.2.f_bad])]) (ob := [CbOb (CallsB Tryd.prog) 29 [.own 1000000 0] [some (72, [ls h0.f_l, vb h0.f_bad])] ⟨[(1000000, 1000000)], [(1000000, 1000000)], [.own 1000000 0], [(1000000, 72, [ls h0.f_l, vb h0.f_bad])], .str r1.1, [(1000000, 72, [ls r1.2.f_l, vb r1.2.f_bad])]⟩]) (by kernel_rfl) (AllP.cons (⟨(ok_script_words_next__o0 n h0 _ hr1), by kernel_rfl, by kernel_rfl⟩) AllP.nil) ?_
  refine To.thenN (Wp.block (Wp.seq ?_))
  refine rg [0, 2, 4, 5] [2, 1000000] (K' := [(0, .own 1000000 0), (2, .own 2 0), (4, .str r1.1), (5, vb (r1.1 == [109, 97, 107, 101, 45, 110, 101, 116]))]) (L' := [(2, 30, [vi 0, .str [], vi 0, .str [], .str [], .str [], vi 0, .str [], .val (.slice none 0 0), .val (.slice none 0 0), .str [], vi 0, vi 0, vi 0, vi 0, vi 0]), (1000000, 72, [ls r1.2.f_l, vb r1.2.f_bad])]) (by kernel_rfl) ?_
  refine To.thenN ?_
  refine Wp.cond (b := (r1.1 == [109, 97, 107, 101, 45, 110, 101, 116])) (by kernel_rfl) (fun hb => ?_) (fun hb => ?_)
  · replace h := if_t hb h
    refine Wp.seq ?_
    obtain ⟨r2, hr2, h⟩ := bind_of h
    refine Wp.region hΓ [] [] [(1, ⟨[(1000000, 1000000)], [(1000000, 1000000)], [.own 1000000 0, vi 1], [(1000000, 72, [ls r1.2.f_l, vb r1.2.f_bad])], .agg [vi r2.1.f_Kind, .str r2.1.f_Name, vi r2.1.f_Id, .str r2.1.f_Spec.f_Name, .str r2.1.f_Spec.f_Project, .str r2.1.f_Spec.f_Service, vi r2.1.f_Spec.f_Number, .str r2.1.f_Spec.f_Hash, ls r2.1.f_Spec.f_Nets, ls r2.1.f_Spec.f_Vols, .str r2.1.f_Spec.f_Health.f_Test, vi r2.1.f_Spec.f_Health.f_Every, vi r2.1.f_Spec.f_Health.f_Start, vi r2.1.f_Spec.f_Health.f_Retries, vi r2.1.f_Spec.f_Restart, vi r2.1.f_Spec.f_Tries], [(1000000, 72, [ls r2.2.f_l, vb r2.2.f_bad])]⟩)] [2] [2, 1000000] (K' := [(2, .own 2 0)]) (L' := [(2, 30, (E_api_Call r2.1)), (1000000, 72, [ls r2.2.f_l, vb r2.2.f_bad])]) (ob := [CbOb (CallsB Tryd.prog) 55 [.own 1000000 0, vi 1] [some (72, [ls r1.2.f_l, vb r1.2.f_bad])] ⟨[(1000000, 1000000)], [(1000000, 1000000)], [.own 1000000 0, vi 1], [(1000000, 72, [ls r1.2.f_l, vb r1.2.f_bad])], .agg [vi r2.1.f_Kind, .str r2.1.f_Name, vi r2.1.f_Id, .str r2.1.f_Spec.f_Name, .str r2.1.f_Spec.f_Project, .str r2.1.f_Spec.f_Service, vi r2.1.f_Spec.f_Number, .str r2.1.f_Spec.f_Hash, ls r2.1.f_Spec.f_Nets, ls r2.1.f_Spec.f_Vols, .str r2.1.f_Spec.f_Health.f_Test, vi r2.1.f_Spec.f_Health.f_Every, vi r2.1.f_Spec.f_Health.f_Start, vi r2.1.f_Spec.f_Health.f_Retries, vi r2.1.f_Spec.f_Restart, vi r2.1.f_Spec.f_Tries], [(1000000, 72, [ls r2.2.f_l, vb r2.2.f_bad])]⟩]) (by kernel_rfl) (AllP.cons (⟨(ok_script_words_kept__o0 n 1 r1.2 _ hr2), by kernel_rfl, by kernel_rfl⟩) AllP.nil) ?_
    refine To.thenN ?_
    refine Wp.ret ?_
    refine To.blockR ?_
    refine To.thenR ?_
    refine To.keep (kk := [2]) (kl := [2, 1000000]) (K' := [(2, .own 2 0)]) (L' := [(2, 30, (E_api_Call r2.1)), (1000000, 72, [ls r2.2.f_l, vb r2.2.f_bad])]) (by kernel_rfl) (by kernel_rfl) ?_
    cases h
    exact To.doneB hΓ [1000000] (by kernel_rfl) (by kernel_rfl)
  · replace h := if_f hb h
    refine Wp.seq ?_
    refine rg [0, 2, 4, 9] [2, 1000000] (K' := [(0, .own 1000000 0), (2, .own 2 0), (4, .str r1.1), (9, vb (r1.1 == [109, 97, 107, 101, 45, 118, 111, 108]))]) (L' := [(2, 30, [vi 0, .str [], vi 0, .str [], .str [], .str [], vi 0, .str [], .val (.slice none 0 0), .val (.slice none 0 0), .str [], vi 0, vi 0, vi 0, vi 0, vi 0]), (1000000, 72, [ls r1.2.f_l, vb r1.2.f_bad])]) (by kernel_rfl) ?_
    refine To.thenN ?_
    refine Wp.cond (b := (r1.1 == [109, 97, 107, 101, 45, 118, 111, 108])) (by kernel_rfl) (fun hb => ?_) (fun hb => ?_)
    · replace h := if_t hb h
      refine Wp.seq ?_
      obtain ⟨r3, hr3, h⟩ := bind_of h
      refine Wp.region hΓ [] [] [(1, ⟨[(1000000, 1000000)], [(1000000, 1000000)], [.own 1000000 0, vi 2], [(1000000, 72, [ls r1.2.f_l, vb r1.2.f_bad])], .agg [vi r3.1.f_Kind, .str r3.1.f_Name, vi r3.1.f_Id, .str r3.1.f_Spec.f_Name, .str r3.1.f_Spec.f_Project, .str r3.1.f_Spec.f_Service, vi r3.1.f_Spec.f_Number, .str r3.1.f_Spec.f_Hash, ls r3.1.f_Spec.f_Nets, ls r3.1.f_Spec.f_Vols, .str r3.1.f_Spec.f_Health.f_Test, vi r3.1.f_Spec.f_Health.f_Every, vi r3.1.f_Spec.f_Health.f_Start, vi r3.1.f_Spec.f_Health.f_Retries, vi r3.1.f_Spec.f_Restart, vi r3.1.f_Spec.f_Tries], [(1000000, 72, [ls r3.2.f_l, vb r3.2.f_bad])]⟩)] [2] [2, 1000000] (K' := [(2, .own 2 0)]) (L' := [(2, 30, (E_api_Call r3.1)), (1000000, 72, [ls r3.2.f_l, vb r3.2.f_bad])]) (ob := [CbOb (CallsB Tryd.prog) 55 [.own 1000000 0, vi 2] [some (72, [ls r1.2.f_l, vb r1.2.f_bad])] ⟨[(1000000, 1000000)], [(1000000, 1000000)], [.own 1000000 0, vi 2], [(1000000, 72, [ls r1.2.f_l, vb r1.2.f_bad])], .agg [vi r3.1.f_Kind, .str r3.1.f_Name, vi r3.1.f_Id, .str r3.1.f_Spec.f_Name, .str r3.1.f_Spec.f_Project, .str r3.1.f_Spec.f_Service, vi r3.1.f_Spec.f_Number, .str r3.1.f_Spec.f_Hash, ls r3.1.f_Spec.f_Nets, ls r3.1.f_Spec.f_Vols, .str r3.1.f_Spec.f_Health.f_Test, vi r3.1.f_Spec.f_Health.f_Every, vi r3.1.f_Spec.f_Health.f_Start, vi r3.1.f_Spec.f_Health.f_Retries, vi r3.1.f_Spec.f_Restart, vi r3.1.f_Spec.f_Tries], [(1000000, 72, [ls r3.2.f_l, vb r3.2.f_bad])]⟩]) (by kernel_rfl) (AllP.cons (⟨(ok_script_words_kept__o0 n 2 r1.2 _ hr3), by kernel_rfl, by kernel_rfl⟩) AllP.nil) ?_
      refine To.thenN ?_
      refine Wp.ret ?_
      refine To.blockR ?_
      refine To.thenR ?_
      refine To.keep (kk := [2]) (kl := [2, 1000000]) (K' := [(2, .own 2 0)]) (L' := [(2, 30, (E_api_Call r3.1)), (1000000, 72, [ls r3.2.f_l, vb r3.2.f_bad])]) (by kernel_rfl) (by kernel_rfl) ?_
      cases h
      exact To.doneB hΓ [1000000] (by kernel_rfl) (by kernel_rfl)
    · replace h := if_f hb h
      refine Wp.seq ?_
      refine rg [0, 2, 4, 13] [2, 1000000] (K' := [(0, .own 1000000 0), (2, .own 2 0), (4, .str r1.1), (13, vb (r1.1 == [100, 114, 111, 112, 45, 110, 101, 116]))]) (L' := [(2, 30, [vi 0, .str [], vi 0, .str [], .str [], .str [], vi 0, .str [], .val (.slice none 0 0), .val (.slice none 0 0), .str [], vi 0, vi 0, vi 0, vi 0, vi 0]), (1000000, 72, [ls r1.2.f_l, vb r1.2.f_bad])]) (by kernel_rfl) ?_
      refine To.thenN ?_
      refine Wp.cond (b := (r1.1 == [100, 114, 111, 112, 45, 110, 101, 116])) (by kernel_rfl) (fun hb => ?_) (fun hb => ?_)
      · replace h := if_t hb h
        refine Wp.seq ?_
        obtain ⟨r4, hr4, h⟩ := bind_of h
        refine Wp.region hΓ [] [] [(1, ⟨[(1000000, 1000000)], [(1000000, 1000000)], [.own 1000000 0], [(1000000, 72, [ls r1.2.f_l, vb r1.2.f_bad])], .str r4.1, [(1000000, 72, [ls r4.2.f_l, vb r4.2.f_bad])]⟩)] [2] [2, 1000000] (K' := [(2, .own 2 0)]) (L' := [(2, 30, [vi 3, .str r4.1, vi 0, .str [], .str [], .str [], vi 0, .str [], .val (.slice none 0 0), .val (.slice none 0 0), .str [], vi 0, vi 0, vi 0, vi 0, vi 0]), (1000000, 72, [ls r4.2.f_l, vb r4.2.f_bad])]) (ob := [CbOb (CallsB Tryd.prog) 56 [.own 1000000 0] [some (72, [ls r1.2.f_l, vb r1.2.f_bad])] ⟨[(1000000, 1000000)], [(1000000, 1000000)], [.own 1000000 0], [(1000000, 72, [ls r1.2.f_l, vb r1.2.f_bad])], .str r4.1, [(1000000, 72, [ls r4.2.f_l, vb r4.2.f_bad])]⟩]) (by kernel_rfl) (AllP.cons (⟨(ok_script_words_key__o0 n r1.2 _ hr4), by kernel_rfl, by kernel_rfl⟩) AllP.nil) ?_
        refine To.thenN ?_
        refine Wp.ret ?_
        refine To.blockR ?_
        refine To.thenR ?_
        refine To.keep (kk := [2]) (kl := [2, 1000000]) (K' := [(2, .own 2 0)]) (L' := [(2, 30, [vi 3, .str r4.1, vi 0, .str [], .str [], .str [], vi 0, .str [], .val (.slice none 0 0), .val (.slice none 0 0), .str [], vi 0, vi 0, vi 0, vi 0, vi 0]), (1000000, 72, [ls r4.2.f_l, vb r4.2.f_bad])]) (by kernel_rfl) (by kernel_rfl) ?_
        refine To.weak (K' := [(2, .own 2 0)]) (L' := [(2, 30, [vi 3, .str r4.1, vi 0, .str [], .str [], .str [], vi 0, .str [], ls [], ls [], .str [], vi 0, vi 0, vi 0, vi 0, vi 0]), (1000000, 72, [ls r4.2.f_l, vb r4.2.f_bad])]) (.cons (.refl _) .nil) (.cons (.cons (.refl _) (.cons (.refl _) (.cons (.refl _) (.cons (.refl _) (.cons (.refl _) (.cons (.refl _) (.cons (.refl _) (.cons (.refl _) (.cons (.zero _ _) (.cons (.zero _ _) (.cons (.refl _) (.cons (.refl _) (.cons (.refl _) (.cons (.refl _) (.cons (.refl _) (.cons (.refl _) .nil)))))))))))))))) (.cons (.cons (.refl _) (.cons (.refl _) .nil)) .nil)) ?_
        cases h
        exact To.doneB hΓ [1000000] (by kernel_rfl) (by kernel_rfl)
      · replace h := if_f hb h
        refine Wp.seq ?_
        refine rg [0, 2, 4, 18] [2, 1000000] (K' := [(0, .own 1000000 0), (2, .own 2 0), (4, .str r1.1), (18, vb (r1.1 == [100, 114, 111, 112, 45, 118, 111, 108]))]) (L' := [(2, 30, [vi 0, .str [], vi 0, .str [], .str [], .str [], vi 0, .str [], .val (.slice none 0 0), .val (.slice none 0 0), .str [], vi 0, vi 0, vi 0, vi 0, vi 0]), (1000000, 72, [ls r1.2.f_l, vb r1.2.f_bad])]) (by kernel_rfl) ?_
        refine To.thenN ?_
        refine Wp.cond (b := (r1.1 == [100, 114, 111, 112, 45, 118, 111, 108])) (by kernel_rfl) (fun hb => ?_) (fun hb => ?_)
        · replace h := if_t hb h
          refine Wp.seq ?_
          obtain ⟨r5, hr5, h⟩ := bind_of h
          refine Wp.region hΓ [] [] [(1, ⟨[(1000000, 1000000)], [(1000000, 1000000)], [.own 1000000 0], [(1000000, 72, [ls r1.2.f_l, vb r1.2.f_bad])], .str r5.1, [(1000000, 72, [ls r5.2.f_l, vb r5.2.f_bad])]⟩)] [2] [2, 1000000] (K' := [(2, .own 2 0)]) (L' := [(2, 30, [vi 4, .str r5.1, vi 0, .str [], .str [], .str [], vi 0, .str [], .val (.slice none 0 0), .val (.slice none 0 0), .str [], vi 0, vi 0, vi 0, vi 0, vi 0]), (1000000, 72, [ls r5.2.f_l, vb r5.2.f_bad])]) (ob := [CbOb (CallsB Tryd.prog) 56 [.own 1000000 0] [some (72, [ls r1.2.f_l, vb r1.2.f_bad])] ⟨[(1000000, 1000000)], [(1000000, 1000000)], [.own 1000000 0], [(1000000, 72, [ls r1.2.f_l, vb r1.2.f_bad])], .str r5.1, [(1000000, 72, [ls r5.2.f_l, vb r5.2.f_bad])]⟩]) (by kernel_rfl) (AllP.cons (⟨(ok_script_words_key__o0 n r1.2 _ hr5), by kernel_rfl, by kernel_rfl⟩) AllP.nil) ?_
          refine To.thenN ?_
          refine Wp.ret ?_
          refine To.blockR ?_
          refine To.thenR ?_
          refine To.keep (kk := [2]) (kl := [2, 1000000]) (K' := [(2, .own 2 0)]) (L' := [(2, 30, [vi 4, .str r5.1, vi 0, .str [], .str [], .str [], vi 0, .str [], .val (.slice none 0 0), .val (.slice none 0 0), .str [], vi 0, vi 0, vi 0, vi 0, vi 0]), (1000000, 72, [ls r5.2.f_l, vb r5.2.f_bad])]) (by kernel_rfl) (by kernel_rfl) ?_
          refine To.weak (K' := [(2, .own 2 0)]) (L' := [(2, 30, [vi 4, .str r5.1, vi 0, .str [], .str [], .str [], vi 0, .str [], ls [], ls [], .str [], vi 0, vi 0, vi 0, vi 0, vi 0]), (1000000, 72, [ls r5.2.f_l, vb r5.2.f_bad])]) (.cons (.refl _) .nil) (.cons (.cons (.refl _) (.cons (.refl _) (.cons (.refl _) (.cons (.refl _) (.cons (.refl _) (.cons (.refl _) (.cons (.refl _) (.cons (.refl _) (.cons (.zero _ _) (.cons (.zero _ _) (.cons (.refl _) (.cons (.refl _) (.cons (.refl _) (.cons (.refl _) (.cons (.refl _) (.cons (.refl _) .nil)))))))))))))))) (.cons (.cons (.refl _) (.cons (.refl _) .nil)) .nil)) ?_
          cases h
          exact To.doneB hΓ [1000000] (by kernel_rfl) (by kernel_rfl)
        · replace h := if_f hb h
          refine Wp.seq ?_
          refine rg [0, 2, 4, 23] [2, 1000000] (K' := [(0, .own 1000000 0), (2, .own 2 0), (4, .str r1.1), (23, vb (r1.1 == [115, 116, 97, 114, 116]))]) (L' := [(2, 30, [vi 0, .str [], vi 0, .str [], .str [], .str [], vi 0, .str [], .val (.slice none 0 0), .val (.slice none 0 0), .str [], vi 0, vi 0, vi 0, vi 0, vi 0]), (1000000, 72, [ls r1.2.f_l, vb r1.2.f_bad])]) (by kernel_rfl) ?_
          refine To.thenN ?_
          refine Wp.cond (b := (r1.1 == [115, 116, 97, 114, 116])) (by kernel_rfl) (fun hb => ?_) (fun hb => ?_)
          · replace h := if_t hb h
            refine Wp.seq ?_
            obtain ⟨r6, hr6, h⟩ := bind_of h
            refine Wp.region hΓ [] [] [(1, ⟨[(1000000, 1000000)], [(1000000, 1000000)], [.own 1000000 0], [(1000000, 72, [ls r1.2.f_l, vb r1.2.f_bad])], vi r6.1, [(1000000, 72, [ls r6.2.f_l, vb r6.2.f_bad])]⟩)] [2] [2, 1000000] (K' := [(2, .own 2 0)]) (L' := [(2, 30, [vi 6, .str [], vi r6.1, .str [], .str [], .str [], vi 0, .str [], .val (.slice none 0 0), .val (.slice none 0 0), .str [], vi 0, vi 0, vi 0, vi 0, vi 0]), (1000000, 72, [ls r6.2.f_l, vb r6.2.f_bad])]) (ob := [CbOb (CallsB Tryd.prog) 32 [.own 1000000 0] [some (72, [ls r1.2.f_l, vb r1.2.f_bad])] ⟨[(1000000, 1000000)], [(1000000, 1000000)], [.own 1000000 0], [(1000000, 72, [ls r1.2.f_l, vb r1.2.f_bad])], vi r6.1, [(1000000, 72, [ls r6.2.f_l, vb r6.2.f_bad])]⟩]) (by kernel_rfl) (AllP.cons (⟨(ok_script_words_number__o0 n r1.2 _ hr6), by kernel_rfl, by kernel_rfl⟩) AllP.nil) ?_
            refine To.thenN ?_
            refine Wp.ret ?_
            refine To.blockR ?_
            refine To.thenR ?_
            refine To.keep (kk := [2]) (kl := [2, 1000000]) (K' := [(2, .own 2 0)]) (L' := [(2, 30, [vi 6, .str [], vi r6.1, .str [], .str [], .str [], vi 0, .str [], .val (.slice none 0 0), .val (.slice none 0 0), .str [], vi 0, vi 0, vi 0, vi 0, vi 0]), (1000000, 72, [ls r6.2.f_l, vb r6.2.f_bad])]) (by kernel_rfl) (by kernel_rfl) ?_
            refine To.weak (K' := [(2, .own 2 0)]) (L' := [(2, 30, [vi 6, .str [], vi r6.1, .str [], .str [], .str [], vi 0, .str [], ls [], ls [], .str [], vi 0, vi 0, vi 0, vi 0, vi 0]), (1000000, 72, [ls r6.2.f_l, vb r6.2.f_bad])]) (.cons (.refl _) .nil) (.cons (.cons (.refl _) (.cons (.refl _) (.cons (.refl _) (.cons (.refl _) (.cons (.refl _) (.cons (.refl _) (.cons (.refl _) (.cons (.refl _) (.cons (.zero _ _) (.cons (.zero _ _) (.cons (.refl _) (.cons (.refl _) (.cons (.refl _) (.cons (.refl _) (.cons (.refl _) (.cons (.refl _) .nil)))))))))))))))) (.cons (.cons (.refl _) (.cons (.refl _) .nil)) .nil)) ?_
            cases h
            exact To.doneB hΓ [1000000] (by kernel_rfl) (by kernel_rfl)
          · replace h := if_f hb h
            refine Wp.seq ?_
            refine rg [0, 2, 4, 28] [2, 1000000] (K' := [(0, .own 1000000 0), (2, .own 2 0), (4, .str r1.1), (28, vb (r1.1 == [115, 116, 111, 112]))]) (L' := [(2, 30, [vi 0, .str [], vi 0, .str [], .str [], .str [], vi 0, .str [], .val (.slice none 0 0), .val (.slice none 0 0), .str [], vi 0, vi 0, vi 0, vi 0, vi 0]), (1000000, 72, [ls r1.2.f_l, vb r1.2.f_bad])]) (by kernel_rfl) ?_
            refine To.thenN ?_
            refine Wp.cond (b := (r1.1 == [115, 116, 111, 112])) (by kernel_rfl) (fun hb => ?_) (fun hb => ?_)
            · replace h := if_t hb h
              refine Wp.seq ?_
              obtain ⟨r7, hr7, h⟩ := bind_of h
              refine Wp.region hΓ [] [] [(1, ⟨[(1000000, 1000000)], [(1000000, 1000000)], [.own 1000000 0], [(1000000, 72, [ls r1.2.f_l, vb r1.2.f_bad])], vi r7.1, [(1000000, 72, [ls r7.2.f_l, vb r7.2.f_bad])]⟩)] [2] [2, 1000000] (K' := [(2, .own 2 0)]) (L' := [(2, 30, [vi 7, .str [], vi r7.1, .str [], .str [], .str [], vi 0, .str [], .val (.slice none 0 0), .val (.slice none 0 0), .str [], vi 0, vi 0, vi 0, vi 0, vi 0]), (1000000, 72, [ls r7.2.f_l, vb r7.2.f_bad])]) (ob := [CbOb (CallsB Tryd.prog) 32 [.own 1000000 0] [some (72, [ls r1.2.f_l, vb r1.2.f_bad])] ⟨[(1000000, 1000000)], [(1000000, 1000000)], [.own 1000000 0], [(1000000, 72, [ls r1.2.f_l, vb r1.2.f_bad])], vi r7.1, [(1000000, 72, [ls r7.2.f_l, vb r7.2.f_bad])]⟩]) (by kernel_rfl) (AllP.cons (⟨(ok_script_words_number__o0 n r1.2 _ hr7), by kernel_rfl, by kernel_rfl⟩) AllP.nil) ?_
              refine To.thenN ?_
              refine Wp.ret ?_
              refine To.blockR ?_
              refine To.thenR ?_
              refine To.keep (kk := [2]) (kl := [2, 1000000]) (K' := [(2, .own 2 0)]) (L' := [(2, 30, [vi 7, .str [], vi r7.1, .str [], .str [], .str [], vi 0, .str [], .val (.slice none 0 0), .val (.slice none 0 0), .str [], vi 0, vi 0, vi 0, vi 0, vi 0]), (1000000, 72, [ls r7.2.f_l, vb r7.2.f_bad])]) (by kernel_rfl) (by kernel_rfl) ?_
              refine To.weak (K' := [(2, .own 2 0)]) (L' := [(2, 30, [vi 7, .str [], vi r7.1, .str [], .str [], .str [], vi 0, .str [], ls [], ls [], .str [], vi 0, vi 0, vi 0, vi 0, vi 0]), (1000000, 72, [ls r7.2.f_l, vb r7.2.f_bad])]) (.cons (.refl _) .nil) (.cons (.cons (.refl _) (.cons (.refl _) (.cons (.refl _) (.cons (.refl _) (.cons (.refl _) (.cons (.refl _) (.cons (.refl _) (.cons (.refl _) (.cons (.zero _ _) (.cons (.zero _ _) (.cons (.refl _) (.cons (.refl _) (.cons (.refl _) (.cons (.refl _) (.cons (.refl _) (.cons (.refl _) .nil)))))))))))))))) (.cons (.cons (.refl _) (.cons (.refl _) .nil)) .nil)) ?_
              cases h
              exact To.doneB hΓ [1000000] (by kernel_rfl) (by kernel_rfl)
            · replace h := if_f hb h
              refine Wp.seq ?_
              refine rg [0, 2, 33] [2, 1000000] (K' := [(0, .own 1000000 0), (2, .own 2 0), (33, vb (r1.1 == [100, 114, 111, 112]))]) (L' := [(2, 30, [vi 0, .str [], vi 0, .str [], .str [], .str [], vi 0, .str [], .val (.slice none 0 0), .val (.slice none 0 0), .str [], vi 0, vi 0, vi 0, vi 0, vi 0]), (1000000, 72, [ls r1.2.f_l, vb r1.2.f_bad])]) (by kernel_rfl) ?_
              refine To.thenN ?_
              refine Wp.cond (b := (r1.1 == [100, 114, 111, 112])) (by kernel_rfl) (fun hb => ?_) (fun hb => ?_)
              · replace h := if_t hb h
                refine Wp.seq ?_
                obtain ⟨r8, hr8, h⟩ := bind_of h
                refine Wp.region hΓ [] [] [(1, ⟨[(1000000, 1000000)], [(1000000, 1000000)], [.own 1000000 0], [(1000000, 72, [ls r1.2.f_l, vb r1.2.f_bad])], vi r8.1, [(1000000, 72, [ls r8.2.f_l, vb r8.2.f_bad])]⟩)] [2] [2, 1000000] (K' := [(2, .own 2 0)]) (L' := [(2, 30, [vi 8, .str [], vi r8.1, .str [], .str [], .str [], vi 0, .str [], .val (.slice none 0 0), .val (.slice none 0 0), .str [], vi 0, vi 0, vi 0, vi 0, vi 0]), (1000000, 72, [ls r8.2.f_l, vb r8.2.f_bad])]) (ob := [CbOb (CallsB Tryd.prog) 32 [.own 1000000 0] [some (72, [ls r1.2.f_l, vb r1.2.f_bad])] ⟨[(1000000, 1000000)], [(1000000, 1000000)], [.own 1000000 0], [(1000000, 72, [ls r1.2.f_l, vb r1.2.f_bad])], vi r8.1, [(1000000, 72, [ls r8.2.f_l, vb r8.2.f_bad])]⟩]) (by kernel_rfl) (AllP.cons (⟨(ok_script_words_number__o0 n r1.2 _ hr8), by kernel_rfl, by kernel_rfl⟩) AllP.nil) ?_
                refine To.thenN ?_
                refine Wp.ret ?_
                refine To.blockR ?_
                refine To.thenR ?_
                refine To.keep (kk := [2]) (kl := [2, 1000000]) (K' := [(2, .own 2 0)]) (L' := [(2, 30, [vi 8, .str [], vi r8.1, .str [], .str [], .str [], vi 0, .str [], .val (.slice none 0 0), .val (.slice none 0 0), .str [], vi 0, vi 0, vi 0, vi 0, vi 0]), (1000000, 72, [ls r8.2.f_l, vb r8.2.f_bad])]) (by kernel_rfl) (by kernel_rfl) ?_
                refine To.weak (K' := [(2, .own 2 0)]) (L' := [(2, 30, [vi 8, .str [], vi r8.1, .str [], .str [], .str [], vi 0, .str [], ls [], ls [], .str [], vi 0, vi 0, vi 0, vi 0, vi 0]), (1000000, 72, [ls r8.2.f_l, vb r8.2.f_bad])]) (.cons (.refl _) .nil) (.cons (.cons (.refl _) (.cons (.refl _) (.cons (.refl _) (.cons (.refl _) (.cons (.refl _) (.cons (.refl _) (.cons (.refl _) (.cons (.refl _) (.cons (.zero _ _) (.cons (.zero _ _) (.cons (.refl _) (.cons (.refl _) (.cons (.refl _) (.cons (.refl _) (.cons (.refl _) (.cons (.refl _) .nil)))))))))))))))) (.cons (.cons (.refl _) (.cons (.refl _) .nil)) .nil)) ?_
                cases h
                exact To.doneB hΓ [1000000] (by kernel_rfl) (by kernel_rfl)
              · replace h := if_f hb h
                refine Wp.skip ?_
                refine To.blockN ?_
                refine To.thenN (Wp.seq ?_)
                refine rg [2] [2, 1000000] (K' := [(2, .own 2 0)]) (L' := [(2, 30, [vi 0, .str [], vi 0, .str [], .str [], .str [], vi 0, .str [], .val (.slice none 0 0), .val (.slice none 0 0), .str [], vi 0, vi 0, vi 0, vi 0, vi 0]), (1000000, 72, [ls r1.2.f_l, vb true])]) (by kernel_rfl) ?_
                refine To.thenN (Wp.seq ?_)
                refine rg [2] [2, 1000000] (K' := [(2, .own 2 0)]) (L' := [(2, 30, [vi 0, .str [], vi 0, .str [], .str [], .str [], vi 0, .str [], .val (.slice none 0 0), .val (.slice none 0 0), .str [], vi 0, vi 0, vi 0, vi 0, vi 0]), (1000000, 72, [ls r1.2.f_l, vb true])]) (by kernel_rfl) ?_
                refine To.thenN ?_
                refine Wp.ret ?_
                refine To.keep (kk := [2]) (kl := [2, 1000000]) (K' := [(2, .own 2 0)]) (L' := [(2, 30, [vi 0, .str [], vi 0, .str [], .str [], .str [], vi 0, .str [], .val (.slice none 0 0), .val (.slice none 0 0), .str [], vi 0, vi 0, vi 0, vi 0, vi 0]), (1000000, 72, [ls r1.2.f_l, vb true])]) (by kernel_rfl) (by kernel_rfl) ?_
                refine To.weak (K' := [(2, .own 2 0)]) (L' := [(2, 30, [vi 0, .str [], vi 0, .str [], .str [], .str [], vi 0, .str [], ls [], ls [], .str [], vi 0, vi 0, vi 0, vi 0, vi 0]), (1000000, 72, [ls r1.2.f_l, vb true])]) (.cons (.refl _) .nil) (.cons (.cons (.refl _) (.cons (.refl _) (.cons (.refl _) (.cons (.refl _) (.cons (.refl _) (.cons (.refl _) (.cons (.refl _) (.cons (.refl _) (.cons (.zero _ _) (.cons (.zero _ _) (.cons (.refl _) (.cons (.refl _) (.cons (.refl _) (.cons (.refl _) (.cons (.refl _) (.cons (.refl _) .nil)))))))))))))))) (.cons (.cons (.refl _) (.cons (.refl _) .nil)) .nil)) ?_
                cases h
                exact To.doneB hΓ [1000000] (by kernel_rfl) (by kernel_rfl)
def script_Line_j2 (n : Nat) (v21 : List UInt8) (b2 : S_ref45_Step) (b5 : S_ref45_Step) (b11 : S_script_words) : Option (S_ref45_Step × S_script_words) :=
  if (v21 == [103, 111]) = true then (some ((S_ref45_Step.mk 2 b5.f_N b5.f_M b5.f_Command b5.f_Call), b11))
  else (if (v21 == [99, 114, 97, 115, 104]) = true then (some ((S_ref45_Step.mk 8 b5.f_N b5.f_M b5.f_Command b5.f_Call), b11))
  else (if (v21 == [116, 105, 99, 107]) = true then ((script_words_number__o0 n b11).bind fun r5 =>
  some ((S_ref45_Step.mk 3 r5.1 0 (S_api_Command.mk 0 [] 0 false false 0 0) (S_api_Call.mk 0 [] 0 (S_api_Spec.mk [] [] [] 0 [] [] [] (S_api_Check.mk [] 0 0 0) 0 0))), r5.2))
  else (if (v21 == [115, 105, 99, 107]) = true then ((script_words_number__o0 n b11).bind fun r6 =>
  some ((S_ref45_Step.mk 5 r6.1 0 (S_api_Command.mk 0 [] 0 false false 0 0) (S_api_Call.mk 0 [] 0 (S_api_Spec.mk [] [] [] 0 [] [] [] (S_api_Check.mk [] 0 0 0) 0 0))), r6.2))
  else (if (v21 == [119, 101, 108, 108]) = true then ((script_words_number__o0 n b11).bind fun r7 =>
  some ((S_ref45_Step.mk 6 r7.1 0 (S_api_Command.mk 0 [] 0 false false 0 0) (S_api_Call.mk 0 [] 0 (S_api_Spec.mk [] [] [] 0 [] [] [] (S_api_Check.mk [] 0 0 0) 0 0))), r7.2))
  else (if (v21 == [101, 120, 105, 116]) = true then ((script_words_number__o0 n b11).bind fun r8 =>
  (script_words_number__o0 n r8.2).bind fun r9 =>
  some ((S_ref45_Step.mk 4 r8.1 r9.1 (S_api_Command.mk 0 [] 0 false false 0 0) (S_api_Call.mk 0 [] 0 (S_api_Spec.mk [] [] [] 0 [] [] [] (S_api_Check.mk [] 0 0 0) 0 0))), r9.2))
  else (if (v21 == [102, 97, 117, 108, 116]) = true then ((script_words_number__o0 n b11).bind fun r10 =>
  (script_words_number__o0 n r10.2).bind fun r11 =>
  some ((S_ref45_Step.mk 7 r10.1 r11.1 (S_api_Command.mk 0 [] 0 false false 0 0) (S_api_Call.mk 0 [] 0 (S_api_Spec.mk [] [] [] 0 [] [] [] (S_api_Check.mk [] 0 0 0) 0 0))), r11.2))
  else (if (v21 == [99, 97, 108, 108]) = true then ((script_words_call__o0 n b11).bind fun r12 =>
  some ((S_ref45_Step.mk 9 0 0 (S_api_Command.mk 0 [] 0 false false 0 0) r12.1), r12.2))
  else (some (b5, (S_script_words.mk b11.f_l true))))))))))
theorem ok_script_Line_j2 (n : Nat) (v21 : List UInt8) (b2 : S_ref45_Step) (b5 : S_ref45_Step) (b11 : S_script_words) (o : S_ref45_Step × S_script_words) (h : script_Line_j2 n v21 b2 b5 b11 = some o) {F0 : Fz} {w0 : Pt Tryd.prog} {Q : Exit → Act → World → Prop} (hQ : To 79 F0 w0 [(2, .own 2 0), (4, .own 11 0), (5, .own 5 0)] [(2, 36, (E_script_Step b2)), (5, 36, [vi o.1.f_Kind, vi o.1.f_N, vi o.1.f_M, vi o.1.f_Command.f_Kind, ls o.1.f_Command.f_Services, vi o.1.f_Command.f_Count, vb o.1.f_Command.f_Orphans, vb o.1.f_Command.f_Volumes, vi o.1.f_Command.f_Timeout, vi o.1.f_Command.f_Retries, vi o.1.f_Call.f_Kind, .str o.1.f_Call.f_Name, vi o.1.f_Call.f_Id, .str o.1.f_Call.f_Spec.f_Name, .str o.1.f_Call.f_Spec.f_Project, .str o.1.f_Call.f_Spec.f_Service, vi o.1.f_Call.f_Spec.f_Number, .str o.1.f_Call.f_Spec.f_Hash, ls o.1.f_Call.f_Spec.f_Nets, ls o.1.f_Call.f_Spec.f_Vols, .str o.1.f_Call.f_Spec.f_Health.f_Test, vi o.1.f_Call.f_Spec.f_Health.f_Every, vi o.1.f_Call.f_Spec.f_Health.f_Start, vi o.1.f_Call.f_Spec.f_Health.f_Retries, vi o.1.f_Call.f_Spec.f_Restart, vi o.1.f_Call.f_Spec.f_Tries]), (11, 72, [ls o.2.f_l, vb o.2.f_bad])] .normal Q) : Wp Tryd.prog 79 F0 w0 [(2, .own 2 0), (4, .own 11 0), (5, .own 5 0), (21, .str v21)] [(2, 36, (E_script_Step b2)), (5, 36, (E_script_Step b5)), (11, 72, [ls b11.f_l, vb b11.f_bad])] (cB (cA (cB (cB (cB (cB (cI (cB (cF Tryd.f13))))))))) Q := by
  unfold script_Line_j2 at h
  refine Wp.block (Wp.seq ?_)
  refine rg [2, 4, 5, 21, 25] [2, 5, 11] (K' := [(2, .own 2 0), (4, .own 11 0), (5, .own 5 0), (21, .str v21), (25, vb (v21 == [103, 111]))]) (L' := [(2, 36, (E_script_Step b2)), (5, 36, (E_script_Step b5)), (11, 72, [ls b11.f_l, vb b11.f_bad])]) (by kernel_rfl) ?_
  refine To.thenN ?_
  refine Wp.cond (b := (v21 == [103, 111])) (by kernel_rfl) (fun hb => ?_) (fun hb => ?_)
  · replace h := if_t hb h
    refine rg [2, 4, 5] [2, 5, 11] (K' := [(2, .own 2 0), (4, .own 11 0), (5, .own 5 0)]) (L' := [(2, 36, (E_script_Step b2)), (5, 36, (List.set (E_script_Step b5) 0 (vi 2))), (11, 72, [ls b11.f_l, vb b11.f_bad])]) (by kernel_rfl) ?_
    refine To.blockN ?_
    refine To.keep (kk := [2, 4, 5]) (kl := [2, 5, 11]) (K' := [(2, .own 2 0), (4, .own 11 0), (5, .own 5 0)]) (L' := [(2, 36, (E_script_Step b2)), (5, 36, (List.set (E_script_Step b5) 0 (vi 2))), (11, 72, [ls b11.f_l, vb b11.f_bad])]) (by kernel_rfl) (by kernel_rfl) ?_
    cases h
    exact hQ
  · replace h := if_f hb h
    refine Wp.seq ?_
    refine rg [2, 4, 5, 21, 28] [2, 5, 11] (K' := [(2, .own 2 0), (4, .own 11 0), (5, .own 5 0), (21, .str v21), (28, vb (v21 == [99, 114, 97, 115, 104]))]) (L' := [(2, 36, (E_script_Step b2)), (5, 36, (E_script_Step b5)), (11, 72, [ls b11.f_l, vb b11.f_bad])]) (by kernel_rfl) ?_
    refine To.thenN ?_
    refine Wp.cond (b := (v21 == [99, 114, 97, 115, 104])) (by kernel_rfl) (fun hb => ?_) (fun hb => ?_)
    · replace h := if_t hb h
      refine rg [2, 4, 5] [2, 5, 11] (K' := [(2, .own 2 0), (4, .own 11 0), (5, .own 5 0)]) (L' := [(2, 36, (E_script_Step b2)), (5, 36, (List.set (E_script_Step b5) 0 (vi 8))), (11, 72, [ls b11.f_l, vb b11.f_bad])]) (by kernel_rfl) ?_
      refine To.blockN ?_
      refine To.keep (kk := [2, 4, 5]) (kl := [2, 5, 11]) (K' := [(2, .own 2 0), (4, .own 11 0), (5, .own 5 0)]) (L' := [(2, 36, (E_script_Step b2)), (5, 36, (List.set (E_script_Step b5) 0 (vi 8))), (11, 72, [ls b11.f_l, vb b11.f_bad])]) (by kernel_rfl) (by kernel_rfl) ?_
      cases h
      exact hQ
    · replace h := if_f hb h
      refine Wp.seq ?_
      refine rg [2, 4, 5, 21, 31] [2, 5, 11] (K' := [(2, .own 2 0), (4, .own 11 0), (5, .own 5 0), (21, .str v21), (31, vb (v21 == [116, 105, 99, 107]))]) (L' := [(2, 36, (E_script_Step b2)), (5, 36, (E_script_Step b5)), (11, 72, [ls b11.f_l, vb b11.f_bad])]) (by kernel_rfl) ?_
      refine To.thenN ?_
      refine Wp.cond (b := (v21 == [116, 105, 99, 107])) (by kernel_rfl) (fun hb => ?_) (fun hb => ?_)
      · replace h := if_t hb h
        obtain ⟨r5, hr5, h⟩ := bind_of h
        refine Wp.region hΓ [] [] [(1, ⟨[(1000000, 11)], [(1000000, 11)], [.own 1000000 0], [(1000000, 72, [ls b11.f_l, vb b11.f_bad])], vi r5.1, [(1000000, 72, [ls r5.2.f_l, vb r5.2.f_bad])]⟩)] [2, 4, 5] [2, 5, 11] (K' := [(2, .own 2 0), (4, .own 11 0), (5, .own 5 0)]) (L' := [(2, 36, (E_script_Step b2)), (5, 36, [vi 3, vi r5.1, vi 0, vi 0, .val (.slice none 0 0), vi 0, vb false, vb false, vi 0, vi 0, vi 0, .str [], vi 0, .str [], .str [], .str [], vi 0, .str [], .val (.slice none 0 0), .val (.slice none 0 0), .str [], vi 0, vi 0, vi 0, vi 0, vi 0]), (11, 72, [ls r5.2.f_l, vb r5.2.f_bad])]) (ob := [CbOb (CallsB Tryd.prog) 32 [.own 11 0] [some (72, [ls b11.f_l, vb b11.f_bad])] ⟨[(1000000, 11)], [(1000000, 11)], [.own 1000000 0], [(1000000, 72, [ls b11.f_l, vb b11.f_bad])], vi r5.1, [(1000000, 72, [ls r5.2.f_l, vb r5.2.f_bad])]⟩]) (by kernel_rfl) (AllP.cons (⟨(ok_script_words_number__o0 n b11 _ hr5), by kernel_rfl, by kernel_rfl⟩) AllP.nil) ?_
        refine To.blockN ?_
        refine To.keep (kk := [2, 4, 5]) (kl := [2, 5, 11]) (K' := [(2, .own 2 0), (4, .own 11 0), (5, .own 5 0)]) (L' := [(2, 36, (E_script_Step b2)), (5, 36, [vi 3, vi r5.1, vi 0, vi 0, .val (.slice none 0 0), vi 0, vb false, vb false, vi 0, vi 0, vi 0, .str [], vi 0, .str [], .str [], .str [], vi 0, .str [], .val (.slice none 0 0), .val (.slice none 0 0), .str [], vi 0, vi 0, vi 0, vi 0, vi 0]), (11, 72, [ls r5.2.f_l, vb r5.2.f_bad])]) (by kernel_rfl) (by kernel_rfl) ?_
        refine To.weak (K' := [(2, .own 2 0), (4, .own 11 0), (5, .own 5 0)]) (L' := [(2, 36, (E_script_Step b2)), (5, 36, [vi 3, vi r5.1, vi 0, vi 0, ls [], vi 0, vb false, vb false, vi 0, vi 0, vi 0, .str [], vi 0, .str [], .str [], .str [], vi 0, .str [], ls [], ls [], .str [], vi 0, vi 0, vi 0, vi 0, vi 0]), (11, 72, [ls r5.2.f_l, vb r5.2.f_bad])]) (.cons (.refl _) (.cons (.refl _) (.cons (.refl _) .nil))) (.cons (.cons (.refl _) (.cons (.refl _) (.cons (.refl _) (.cons (.refl _) (.cons (.refl _) (.cons (.refl _) (.cons (.refl _) (.cons (.refl _) (.cons (.refl _) (.cons (.refl _) (.cons (.refl _) (.cons (.refl _) (.cons (.refl _) (.cons (.refl _) (.cons (.refl _) (.cons (.refl _) (.cons (.refl _) (.cons (.refl _) (.cons (.refl _) (.cons (.refl _) (.cons (.refl _) (.cons (.refl _) (.cons (.refl _) (.cons (.refl _) (.cons (.refl _) (.cons (.refl _) .nil)))))))))))))))))))))))))) (.cons (.cons (.refl _) (.cons (.refl _) (.cons (.refl _) (.cons (.refl _) (.cons (.zero _ _) (.cons (.refl _) (.cons (.refl _) (.cons (.refl _) (.cons (.refl _) (.cons (.refl _) (.cons (.refl _) (.cons (.refl _) (.cons (.refl _) (.cons (.refl _) (.cons (.refl _) (.cons (.refl _) (.cons (.refl _) (.cons (.refl _) (.cons (.zero _ _) (.cons (.zero _ _) (.cons (.refl _) (.cons (.refl _) (.cons (.refl _) (.cons (.refl _) (.cons (.refl _) (.cons (.refl _) .nil)))))))))))))))))))))))))) (.cons (.cons (.refl _) (.cons (.refl _) .nil)) .nil))) ?_
        cases h
        exact hQ
      · replace h := if_f hb h
        refine Wp.seq ?_
        refine rg [2, 4, 5, 21, 36] [2, 5, 11] (K' := [(2, .own 2 0), (4, .own 11 0), (5, .own 5 0), (21, .str v21), (36, vb (v21 == [115, 105, 99, 107]))]) (L' := [(2, 36, (E_script_Step b2)), (5, 36, (E_script_Step b5)), (11, 72, [ls b11.f_l, vb b11.f_bad])]) (by kernel_rfl) ?_
        refine To.thenN ?_
        refine Wp.cond (b := (v21 == [115, 105, 99, 107])) (by kernel_rfl) (fun hb => ?_) (fun hb => ?_)
        · replace h := if_t hb h
          obtain ⟨r6, hr6, h⟩ := bind_of h
          refine Wp.region hΓ [] [] [(1, ⟨[(1000000, 11)], [(1000000, 11)], [.own 1000000 0], [(1000000, 72, [ls b11.f_l, vb b11.f_bad])], vi r6.1, [(1000000, 72, [ls r6.2.f_l, vb r6.2.f_bad])]⟩)] [2, 4, 5] [2, 5, 11] (K' := [(2, .own 2 0), (4, .own 11 0), (5, .own 5 0)]) (L' := [(2, 36, (E_script_Step b2)), (5, 36, [vi 5, vi r6.1, vi 0, vi 0, .val (.slice none 0 0), vi 0, vb false, vb false, vi 0, vi 0, vi 0, .str [], vi 0, .str [], .str [], .str [], vi 0, .str [], .val (.slice none 0 0), .val (.slice none 0 0), .str [], vi 0, vi 0, vi 0, vi 0, vi 0]), (11, 72, [ls r6.2.f_l, vb r6.2.f_bad])]) (ob := [CbOb (CallsB Tryd.prog) 32 [.own 11 0] [some (72, [ls b11.f_l, vb b11.f_bad])] ⟨[(1000000, 11)], [(1000000, 11)], [.own 1000000 0], [(1000000, 72, [ls b11.f_l, vb b11.f_bad])], vi r6.1, [(1000000, 72, [ls r6.2.f_l, vb r6.2.f_bad])]⟩]) (by kernel_rfl) (AllP.cons (⟨(ok_script_words_number__o0 n b11 _ hr6), by kernel_rfl, by kernel_rfl⟩) AllP.nil) ?_
          refine To.blockN ?_
          refine To.keep (kk := [2, 4, 5]) (kl := [2, 5, 11]) (K' := [(2, .own 2 0), (4, .own 11 0), (5, .own 5 0)]) (L' := [(2, 36, (E_script_Step b2)), (5, 36, [vi 5, vi r6.1, vi 0, vi 0, .val (.slice none 0 0), vi 0, vb false, vb false, vi 0, vi 0, vi 0, .str [], vi 0, .str [], .str [], .str [], vi 0, .str [], .val (.slice none 0 0), .val (.slice none 0 0), .str [], vi 0, vi 0, vi 0, vi 0, vi 0]), (11, 72, [ls r6.2.f_l, vb r6.2.f_bad])]) (by kernel_rfl) (by kernel_rfl) ?_
          refine To.weak (K' := [(2, .own 2 0), (4, .own 11 0), (5, .own 5 0)]) (L' := [(2, 36, (E_script_Step b2)), (5, 36, [vi 5, vi r6.1, vi 0, vi 0, ls [], vi 0, vb false, vb false, vi 0, vi 0, vi 0, .str [], vi 0, .str [], .str [], .str [], vi 0, .str [], ls [], ls [], .str [], vi 0, vi 0, vi 0, vi 0, vi 0]), (11, 72, [ls r6.2.f_l, vb r6.2.f_bad])]) (.cons (.refl _) (.cons (.refl _) (.cons (.refl _) .nil))) (.cons (.cons (.refl _) (.cons (.refl _) (.cons (.refl _) (.cons (.refl _) (.cons (.refl _) (.cons (.refl _) (.cons (.refl _) (.cons (.refl _) (.cons (.refl _) (.cons (.refl _) (.cons (.refl _) (.cons (.refl _) (.cons (.refl _) (.cons (.refl _) (.cons (.refl _) (.cons (.refl _) (.cons (.refl _) (.cons (.refl _) (.cons (.refl _) (.cons (.refl _) (.cons (.refl _) (.cons (.refl _) (.cons (.refl _) (.cons (.refl _) (.cons (.refl _) (.cons (.refl _) .nil)))))))))))))))))))))))))) (.cons (.cons (.refl _) (.cons (.refl _) (.cons (.refl _) (.cons (.refl _) (.cons (.zero _ _) (.cons (.refl _) (.cons (.refl _) (.cons (.refl _) (.cons (.refl _) (.cons (.refl _) (.cons (.refl _) (.cons (.refl _) (.cons (.refl _) (.cons (.refl _) (.cons (.refl _) (.cons (.refl _) (.cons (.refl _) (.cons (.refl _) (.cons (.zero _ _) (.cons (.zero _ _) (.cons (.refl _) (.cons (.refl _) (.cons (.refl _) (.cons (.refl _) (.cons (.refl _) (.cons (.refl _) .nil)))))))))))))))))))))))))) (.cons (.cons (.refl _) (.cons (.refl _) .nil)) .nil))) ?_
          cases h
          exact hQ
        · replace h := if_f hb h
          refine Wp.seq ?_
          refine rg [2, 4, 5, 21, 41] [2, 5, 11] (K' := [(2, .own 2 0), (4, .own 11 0), (5, .own 5 0), (21, .str v21), (41, vb (v21 == [119, 101, 108, 108]))]) (L' := [(2, 36, (E_script_Step b2)), (5, 36, (E_script_Step b5)), (11, 72, [ls b11.f_l, vb b11.f_bad])]) (by kernel_rfl) ?_
          refine To.thenN ?_
          refine Wp.cond (b := (v21 == [119, 101, 108, 108])) (by kernel_rfl) (fun hb => ?_) (fun hb => ?_)
          · replace h := if_t hb h
            obtain ⟨r7, hr7, h⟩ := bind_of h
            refine Wp.region hΓ [] [] [(1, ⟨[(1000000, 11)], [(1000000, 11)], [.own 1000000 0], [(1000000, 72, [ls b11.f_l, vb b11.f_bad])], vi r7.1, [(1000000, 72, [ls r7.2.f_l, vb r7.2.f_bad])]⟩)] [2, 4, 5] [2, 5, 11] (K' := [(2, .own 2 0), (4, .own 11 0), (5, .own 5 0)]) (L' := [(2, 36, (E_script_Step b2)), (5, 36, [vi 6, vi r7.1, vi 0, vi 0, .val (.slice none 0 0), vi 0, vb false, vb false, vi 0, vi 0, vi 0, .str [], vi 0, .str [], .str [], .str [], vi 0, .str [], .val (.slice none 0 0), .val (.slice none 0 0), .str [], vi 0, vi 0, vi 0, vi 0, vi 0]), (11, 72, [ls r7.2.f_l, vb r7.2.f_bad])]) (ob := [CbOb (CallsB Tryd.prog) 32 [.own 11 0] [some (72, [ls b11.f_l, vb b11.f_bad])] ⟨[(1000000, 11)], [(1000000, 11)], [.own 1000000 0], [(1000000, 72, [ls b11.f_l, vb b11.f_bad])], vi r7.1, [(1000000, 72, [ls r7.2.f_l, vb r7.2.f_bad])]⟩]) (by kernel_rfl) (AllP.cons (⟨(ok_script_words_number__o0 n b11 _ hr7), by kernel_rfl, by kernel_rfl⟩) AllP.nil) ?_
            refine To.blockN ?_
            refine To.keep (kk := [2, 4, 5]) (kl := [2, 5, 11]) (K' := [(2, .own 2 0), (4, .own 11 0), (5, .own 5 0)]) (L' := [(2, 36, (E_script_Step b2)), (5, 36, [vi 6, vi r7.1, vi 0, vi 0, .val (.slice none 0 0), vi 0, vb false, vb false, vi 0, vi 0, vi 0, .str [], vi 0, .str [], .str [], .str [], vi 0, .str [], .val (.slice none 0 0), .val (.slice none 0 0), .str [], vi 0, vi 0, vi 0, vi 0, vi 0]), (11, 72, [ls r7.2.f_l, vb r7.2.f_bad])]) (by kernel_rfl) (by kernel_rfl) ?_
            refine To.weak (K' := [(2, .own 2 0), (4, .own 11 0), (5, .own 5 0)]) (L' := [(2, 36, (E_script_Step b2)), (5, 36, [vi 6, vi r7.1, vi 0, vi 0, ls [], vi 0, vb false, vb false, vi 0, vi 0, vi 0, .str [], vi 0, .str [], .str [], .str [], vi 0, .str [], ls [], ls [], .str [], vi 0, vi 0, vi 0, vi 0, vi 0]), (11, 72, [ls r7.2.f_l, vb r7.2.f_bad])]) (.cons (.refl _) (.cons (.refl _) (.cons (.refl _) .nil))) (.cons (.cons (.refl _) (.cons (.refl _) (.cons (.refl _) (.cons (.refl _) (.cons (.refl _) (.cons (.refl _) (.cons (.refl _) (.cons (.refl _) (.cons (.refl _) (.cons (.refl _) (.cons (.refl _) (.cons (.refl _) (.cons (.refl _) (.cons (.refl _) (.cons (.refl _) (.cons (.refl _) (.cons (.refl _) (.cons (.refl _) (.cons (.refl _) (.cons (.refl _) (.cons (.refl _) (.cons (.refl _) (.cons (.refl _) (.cons (.refl _) (.cons (.refl _) (.cons (.refl _) .nil)))))))))))))))))))))))))) (.cons (.cons (.refl _) (.cons (.refl _) (.cons (.refl _) (.cons (.refl _) (.cons (.zero _ _) (.cons (.refl _) (.cons (.refl _) (.cons (.refl _) (.cons (.refl _) (.cons (.refl _) (.cons (.refl _) (.cons (.refl _) (.cons (.refl _) (.cons (.refl _) (.cons (.refl _) (.cons (.refl _) (.cons (.refl _) (.cons (.refl _) (.cons (.zero _ _) (.cons (.zero _ _) (.cons (.refl _) (.cons (.refl _) (.cons (.refl _) (.cons (.refl _) (.cons (.refl _) (.cons (.refl _) .nil)))))))))))))))))))))))))) (.cons (.cons (.refl _) (.cons (.refl _) .nil)) .nil))) ?_
            cases h
            exact hQ
          · replace h := if_f hb h
            refine Wp.seq ?_
            refine rg [2, 4, 5, 21, 46] [2, 5, 11] (K' := [(2, .own 2 0), (4, .own 11 0), (5, .own 5 0), (21, .str v21), (46, vb (v21 == [101, 120, 105, 116]))]) (L' := [(2, 36, (E_script_Step b2)), (5, 36, (E_script_Step b5)), (11, 72, [ls b11.f_l, vb b11.f_bad])]) (by kernel_rfl) ?_
            refine To.thenN ?_
            refine Wp.cond (b := (v21 == [101, 120, 105, 116])) (by kernel_rfl) (fun hb => ?_) (fun hb => ?_)
            · replace h := if_t hb h
              obtain ⟨r8, hr8, h⟩ := bind_of h
              obtain ⟨r9, hr9, h⟩ := bind_of h
              refine Wp.region hΓ [] [] [(1, ⟨[(1000000, 11)], [(1000000, 11)], [.own 1000000 0], [(1000000, 72, [ls b11.f_l, vb b11.f_bad])], vi r8.1, [(1000000, 72, [ls r8.2.f_l, vb r8.2.f_bad])]⟩), (3, ⟨[(1000000, 11)], [(1000000, 11)], [.own 1000000 0], [(1000000, 72, [ls r8.2.f_l, vb r8.2.f_bad])], vi r9.1, [(1000000, 72, [ls r9.2.f_l, vb r9.2.f_bad])]⟩)] [2, 4, 5] [2, 5, 11] (K' := [(2, .own 2 0), (4, .own 11 0), (5, .own 5 0)]) (L' := [(2, 36, (E_script_Step b2)), (5, 36, [vi 4, vi r8.1, vi r9.1, vi 0, .val (.slice none 0 0), vi 0, vb false, vb false, vi 0, vi 0, vi 0, .str [], vi 0, .str [], .str [], .str [], vi 0, .str [], .val (.slice none 0 0), .val (.slice none 0 0), .str [], vi 0, vi 0, vi 0, vi 0, vi 0]), (11, 72, [ls r9.2.f_l, vb r9.2.f_bad])]) (ob := [CbOb (CallsB Tryd.prog) 32 [.own 11 0] [some (72, [ls b11.f_l, vb b11.f_bad])] ⟨[(1000000, 11)], [(1000000, 11)], [.own 1000000 0], [(1000000, 72, [ls b11.f_l, vb b11.f_bad])], vi r8.1, [(1000000, 72, [ls r8.2.f_l, vb r8.2.f_bad])]⟩, CbOb (CallsB Tryd.prog) 32 [.own 11 0] [some (72, [ls r8.2.f_l, vb r8.2.f_bad])] ⟨[(1000000, 11)], [(1000000, 11)], [.own 1000000 0], [(1000000, 72, [ls r8.2.f_l, vb r8.2.f_bad])], vi r9.1, [(1000000, 72, [ls r9.2.f_l, vb r9.2.f_bad])]⟩]) (by kernel_rfl) (AllP.cons (⟨(ok_script_words_number__o0 n b11 _ hr8), by kernel_rfl, by kernel_rfl⟩) (AllP.cons (⟨(ok_script_words_number__o0 n r8.2 _ hr9), by kernel_rfl, by kernel_rfl⟩) AllP.nil)) ?_
              refine To.blockN ?_
              refine To.keep (kk := [2, 4, 5]) (kl := [2, 5, 11]) (K' := [(2, .own 2 0), (4, .own 11 0), (5, .own 5 0)]) (L' := [(2, 36, (E_script_Step b2)), (5, 36, [vi 4, vi r8.1, vi r9.1, vi 0, .val (.slice none 0 0), vi 0, vb false, vb false, vi 0, vi 0, vi 0, .str [], vi 0, .str [], .str [], .str [], vi 0, .str [], .val (.slice none 0 0), .val (.slice none 0 0), .str [], vi 0, vi 0, vi 0, vi 0, vi 0]), (11, 72, [ls r9.2.f_l, vb r9.2.f_bad])]) (by kernel_rfl) (by kernel_rfl) ?_
              refine To.weak (K' := [(2, .own 2 0), (4, .own 11 0), (5, .own 5 0)]) (L' := [(2, 36, (E_script_Step b2)), (5, 36, [vi 4, vi r8.1, vi r9.1, vi 0, ls [], vi 0, vb false, vb false, vi 0, vi 0, vi 0, .str [], vi 0, .str [], .str [], .str [], vi 0, .str [], ls [], ls [], .str [], vi 0, vi 0, vi 0, vi 0, vi 0]), (11, 72, [ls r9.2.f_l, vb r9.2.f_bad])]) (.cons (.refl _) (.cons (.refl _) (.cons (.refl _) .nil))) (.cons (.cons (.refl _) (.cons (.refl _) (.cons (.refl _) (.cons (.refl _) (.cons (.refl _) (.cons (.refl _) (.cons (.refl _) (.cons (.refl _) (.cons (.refl _) (.cons (.refl _) (.cons (.refl _) (.cons (.refl _) (.cons (.refl _) (.cons (.refl _) (.cons (.refl _) (.cons (.refl _) (.cons (.refl _) (.cons (.refl _) (.cons (.refl _) (.cons (.refl _) (.cons (.refl _) (.cons (.refl _) (.cons (.refl _) (.cons (.refl _) (.cons (.refl _) (.cons (.refl _) .nil)))))))))))))))))))))))))) (.cons (.cons (.refl _) (.cons (.refl _) (.cons (.refl _) (.cons (.refl _) (.cons (.zero _ _) (.cons (.refl _) (.cons (.refl _) (.cons (.refl _) (.cons (.refl _) (.cons (.refl _) (.cons (.refl _) (.cons (.refl _) (.cons (.refl _) (.cons (.refl _) (.cons (.refl _) (.cons (.refl _) (.cons (.refl _) (.cons (.refl _) (.cons (.zero _ _) (.cons (.zero _ _) (.cons (.refl _) (.cons (.refl _) (.cons (.refl _) (.cons (.refl _) (.cons (.refl _) (.cons (.refl _) .nil)))))))))))))))))))))))))) (.cons (.cons (.refl _) (.cons (.refl _) .nil)) .nil))) ?_
              cases h
              exact hQ
            · replace h := if_f hb h
              refine Wp.seq ?_
              refine rg [2, 4, 5, 21, 53] [2, 5, 11] (K' := [(2, .own 2 0), (4, .own 11 0), (5, .own 5 0), (21, .str v21), (53, vb (v21 == [102, 97, 117, 108, 116]))]) (L' := [(2, 36, (E_script_Step b2)), (5, 36, (E_script_Step b5)), (11, 72, [ls b11.f_l, vb b11.f_bad])]) (by kernel_rfl) ?_
              refine To.thenN ?_
              refine Wp.cond (b := (v21 == [102, 97, 117, 108, 116])) (by kernel_rfl) (fun hb => ?_) (fun hb => ?_)
              · replace h := if_t hb h
                obtain ⟨r10, hr10, h⟩ := bind_of h
                obtain ⟨r11, hr11, h⟩ := bind_of h
                refine Wp.region hΓ [] [] [(1, ⟨[(1000000, 11)], [(1000000, 11)], [.own 1000000 0], [(1000000, 72, [ls b11.f_l, vb b11.f_bad])], vi r10.1, [(1000000, 72, [ls r10.2.f_l, vb r10.2.f_bad])]⟩), (3, ⟨[(1000000, 11)], [(1000000, 11)], [.own 1000000 0], [(1000000, 72, [ls r10.2.f_l, vb r10.2.f_bad])], vi r11.1, [(1000000, 72, [ls r11.2.f_l, vb r11.2.f_bad])]⟩)] [2, 4, 5] [2, 5, 11] (K' := [(2, .own 2 0), (4, .own 11 0), (5, .own 5 0)]) (L' := [(2, 36, (E_script_Step b2)), (5, 36, [vi 7, vi r10.1, vi r11.1, vi 0, .val (.slice none 0 0), vi 0, vb false, vb false, vi 0, vi 0, vi 0, .str [], vi 0, .str [], .str [], .str [], vi 0, .str [], .val (.slice none 0 0), .val (.slice none 0 0), .str [], vi 0, vi 0, vi 0, vi 0, vi 0]), (11, 72, [ls r11.2.f_l, vb r11.2.f_bad])]) (ob := [CbOb (CallsB Tryd.prog) 32 [.own 11 0] [some (72, [ls b11.f_l, vb b11.f_bad])] ⟨[(1000000, 11)], [(1000000, 11)], [.own 1000000 0], [(1000000, 72, [ls b11.f_l, vb b11.f_bad])], vi r10.1, [(1000000, 72, [ls r10.2.f_l, vb r10.2.f_bad])]⟩, CbOb (CallsB Tryd.prog) 32 [.own 11 0] [some (72, [ls r10.2.f_l, vb r10.2.f_bad])] ⟨[(1000000, 11)], [(1000000, 11)], [.own 1000000 0], [(1000000, 72, [ls r10.2.f_l, vb r10.2.f_bad])], vi r11.1, [(1000000, 72, [ls r11.2.f_l, vb r11.2.f_bad])]⟩]) (by kernel_rfl) (AllP.cons (⟨(ok_script_words_number__o0 n b11 _ hr10), by kernel_rfl, by kernel_rfl⟩) (AllP.cons (⟨(ok_script_words_number__o0 n r10.2 _ hr11), by kernel_rfl, by kernel_rfl⟩) AllP.nil)) ?_
                refine To.blockN ?_
                refine To.keep (kk := [2, 4, 5]) (kl := [2, 5, 11]) (K' := [(2, .own 2 0), (4, .own 11 0), (5, .own 5 0)]) (L' := [(2, 36, (E_script_Step b2)), (5, 36, [vi 7, vi r10.1, vi r11.1, vi 0, .val (.slice none 0 0), vi 0, vb false, vb false, vi 0, vi 0, vi 0, .str [], vi 0, .str [], .str [], .str [], vi 0, .str [], .val (.slice none 0 0), .val (.slice none 0 0), .str [], vi 0, vi 0, vi 0, vi 0, vi 0]), (11, 72, [ls r11.2.f_l, vb r11.2.f_bad])]) (by kernel_rfl) (by kernel_rfl) ?_
                refine To.weak (K' := [(2, .own 2 0), (4, .own 11 0), (5, .own 5 0)]) (L' := [(2, 36, (E_script_Step b2)), (5, 36, [vi 7, vi r10.1, vi r11.1, vi 0, ls [], vi 0, vb false, vb false, vi 0, vi 0, vi 0, .str [], vi 0, .str [], .str [], .str [], vi 0, .str [], ls [], ls [], .str [], vi 0, vi 0, vi 0, vi 0, vi 0]), (11, 72, [ls r11.2.f_l, vb r11.2.f_bad])]) (.cons (.refl _) (.cons (.refl _) (.cons (.refl _) .nil))) (.cons (.cons (.refl _) (.cons (.refl _) (.cons (.refl _) (.cons (.refl _) (.cons (.refl _) (.cons (.refl _) (.cons (.refl _) (.cons (.refl _) (.cons (.refl _) (.cons (.refl _) (.cons (.refl _) (.cons (.refl _) (.cons (.refl _) (.cons (.refl _) (.cons (.refl _) (.cons (.refl _) (.cons (.refl _) (.cons (.refl _) (.cons (.refl _) (.cons (.refl _) (.cons (.refl _) (.cons (.refl _) (.cons (.refl _) (.cons (.refl _) (.cons (.refl _) (.cons (.refl _) .nil)))))))))))))))))))))))))) (.cons (.cons (.refl _) (.cons (.refl _) (.cons (.refl _) (.cons (.refl _) (.cons (.zero _ _) (.cons (.refl _) (.cons (.refl _) (.cons (.refl _) (.cons (.refl _) (.cons (.refl _) (.cons (.refl _) (.cons (.refl _) (.cons (.refl _) (.cons (.refl _) (.cons (.refl _) (.cons (.refl _) (.cons (.refl _) (.cons (.refl _) (.cons (.zero _ _) (.cons (.zero _ _) (.cons (.refl _) (.cons (.refl _) (.cons (.refl _) (.cons (.refl _) (.cons (.refl _) (.cons (.refl _) .nil)))))))))))))))))))))))))) (.cons (.cons (.refl _) (.cons (.refl _) .nil)) .nil))) ?_
                cases h
                exact hQ
              · replace h := if_f hb h
                refine Wp.seq ?_
                refine rg [2, 4, 5, 60] [2, 5, 11] (K' := [(2, .own 2 0), (4, .own 11 0), (5, .own 5 0), (60, vb (v21 == [99, 97, 108, 108]))]) (L' := [(2, 36, (E_script_Step b2)), (5, 36, (E_script_Step b5)), (11, 72, [ls b11.f_l, vb b11.f_bad])]) (by kernel_rfl) ?_
                refine To.thenN ?_
                refine Wp.cond (b := (v21 == [99, 97, 108, 108])) (by kernel_rfl) (fun hb => ?_) (fun hb => ?_)
                · replace h := if_t hb h
                  obtain ⟨r12, hr12, h⟩ := bind_of h
                  refine Wp.region hΓ [] [] [(1, ⟨[(1000000, 11)], [(1000000, 11)], [.own 1000000 0], [(1000000, 72, [ls b11.f_l, vb b11.f_bad])], .agg [vi r12.1.f_Kind, .str r12.1.f_Name, vi r12.1.f_Id, .str r12.1.f_Spec.f_Name, .str r12.1.f_Spec.f_Project, .str r12.1.f_Spec.f_Service, vi r12.1.f_Spec.f_Number, .str r12.1.f_Spec.f_Hash, ls r12.1.f_Spec.f_Nets, ls r12.1.f_Spec.f_Vols, .str r12.1.f_Spec.f_Health.f_Test, vi r12.1.f_Spec.f_Health.f_Every, vi r12.1.f_Spec.f_Health.f_Start, vi r12.1.f_Spec.f_Health.f_Retries, vi r12.1.f_Spec.f_Restart, vi r12.1.f_Spec.f_Tries], [(1000000, 72, [ls r12.2.f_l, vb r12.2.f_bad])]⟩)] [2, 4, 5] [2, 5, 11] (K' := [(2, .own 2 0), (4, .own 11 0), (5, .own 5 0)]) (L' := [(2, 36, (E_script_Step b2)), (5, 36, [vi 9, vi 0, vi 0, vi 0, .val (.slice none 0 0), vi 0, vb false, vb false, vi 0, vi 0, vi r12.1.f_Kind, .str r12.1.f_Name, vi r12.1.f_Id, .str r12.1.f_Spec.f_Name, .str r12.1.f_Spec.f_Project, .str r12.1.f_Spec.f_Service, vi r12.1.f_Spec.f_Number, .str r12.1.f_Spec.f_Hash, ls r12.1.f_Spec.f_Nets, ls r12.1.f_Spec.f_Vols, .str r12.1.f_Spec.f_Health.f_Test, vi r12.1.f_Spec.f_Health.f_Every, vi r12.1.f_Spec.f_Health.f_Start, vi r12.1.f_Spec.f_Health.f_Retries, vi r12.1.f_Spec.f_Restart, vi r12.1.f_Spec.f_Tries]), (11, 72, [ls r12.2.f_l, vb r12.2.f_bad])]) (ob := [CbOb (CallsB Tryd.prog) 33 [.own 11 0] [some (72, [ls b11.f_l, vb b11.f_bad])] ⟨[(1000000, 11)], [(1000000, 11)], [.own 1000000 0], [(1000000, 72, [ls b11.f_l, vb b11.f_bad])], .agg [vi r12.1.f_Kind, .str r12.1.f_Name, vi r12.1.f_Id, .str r12.1.f_Spec.f_Name, .str r12.1.f_Spec.f_Project, .str r12.1.f_Spec.f_Service, vi r12.1.f_Spec.f_Number, .str r12.1.f_Spec.f_Hash, ls r12.1.f_Spec.f_Nets, ls r12.1.f_Spec.f_Vols, .str r12.1.f_Spec.f_Health.f_Test, vi r12.1.f_Spec.f_Health.f_Every, vi r12.1.f_Spec.f_Health.f_Start, vi r12.1.f_Spec.f_Health.f_Retries, vi r12.1.f_Spec.f_Restart, vi r12.1.f_Spec.f_Tries], [(1000000, 72, [ls r12.2.f_l, vb r12.2.f_bad])]⟩]) (by kernel_rfl) (AllP.cons (⟨(ok_script_words_call__o0 n b11 _ hr12), by kernel_rfl, by kernel_rfl⟩) AllP.nil) ?_
                  refine To.blockN ?_
                  refine To.keep (kk := [2, 4, 5]) (kl := [2, 5, 11]) (K' := [(2, .own 2 0), (4, .own 11 0), (5, .own 5 0)]) (L' := [(2, 36, (E_script_Step b2)), (5, 36, [vi 9, vi 0, vi 0, vi 0, .val (.slice none 0 0), vi 0, vb false, vb false, vi 0, vi 0, vi r12.1.f_Kind, .str r12.1.f_Name, vi r12.1.f_Id, .str r12.1.f_Spec.f_Name, .str r12.1.f_Spec.f_Project, .str r12.1.f_Spec.f_Service, vi r12.1.f_Spec.f_Number, .str r12.1.f_Spec.f_Hash, ls r12.1.f_Spec.f_Nets, ls r12.1.f_Spec.f_Vols, .str r12.1.f_Spec.f_Health.f_Test, vi r12.1.f_Spec.f_Health.f_Every, vi r12.1.f_Spec.f_Health.f_Start, vi r12.1.f_Spec.f_Health.f_Retries, vi r12.1.f_Spec.f_Restart, vi r12.1.f_Spec.f_Tries]), (11, 72, [ls r12.2.f_l, vb r12.2.f_bad])]) (by kernel_rfl) (by kernel_rfl) ?_
                  refine To.weak (K' := [(2, .own 2 0), (4, .own 11 0), (5, .own 5 0)]) (L' := [(2, 36, (E_script_Step b2)), (5, 36, [vi 9, vi 0, vi 0, vi 0, ls [], vi 0, vb false, vb false, vi 0, vi 0, vi r12.1.f_Kind, .str r12.1.f_Name, vi r12.1.f_Id, .str r12.1.f_Spec.f_Name, .str r12.1.f_Spec.f_Project, .str r12.1.f_Spec.f_Service, vi r12.1.f_Spec.f_Number, .str r12.1.f_Spec.f_Hash, ls r12.1.f_Spec.f_Nets, ls r12.1.f_Spec.f_Vols, .str r12.1.f_Spec.f_Health.f_Test, vi r12.1.f_Spec.f_Health.f_Every, vi r12.1.f_Spec.f_Health.f_Start, vi r12.1.f_Spec.f_Health.f_Retries, vi r12.1.f_Spec.f_Restart, vi r12.1.f_Spec.f_Tries]), (11, 72, [ls r12.2.f_l, vb r12.2.f_bad])]) (.cons (.refl _) (.cons (.refl _) (.cons (.refl _) .nil))) (.cons (.cons (.refl _) (.cons (.refl _) (.cons (.refl _) (.cons (.refl _) (.cons (.refl _) (.cons (.refl _) (.cons (.refl _) (.cons (.refl _) (.cons (.refl _) (.cons (.refl _) (.cons (.refl _) (.cons (.refl _) (.cons (.refl _) (.cons (.refl _) (.cons (.refl _) (.cons (.refl _) (.cons (.refl _) (.cons (.refl _) (.cons (.refl _) (.cons (.refl _) (.cons (.refl _) (.cons (.refl _) (.cons (.refl _) (.cons (.refl _) (.cons (.refl _) (.cons (.refl _) .nil)))))))))))))))))))))))))) (.cons (.cons (.refl _) (.cons (.refl _) (.cons (.refl _) (.cons (.refl _) (.cons (.zero _ _) (.cons (.refl _) (.cons (.refl _) (.cons (.refl _) (.cons (.refl _) (.cons (.refl _) (.cons (.refl _) (.cons (.refl _) (.cons (.refl _) (.cons (.refl _) (.cons (.refl _) (.cons (.refl _) (.cons (.refl _) (.cons (.refl _) (.cons (.refl _) (.cons (.refl _) (.cons (.refl _) (.cons (.refl _) (.cons (.refl _) (.cons (.refl _) (.cons (.refl _) (.cons (.refl _) .nil)))))))))))))))))))))))))) (.cons (.cons (.refl _) (.cons (.refl _) .nil)) .nil))) ?_
                  cases h
                  exact hQ
                · replace h := if_f hb h
                  refine rg [2, 4, 5] [2, 5, 11] (K' := [(2, .own 2 0), (4, .own 11 0), (5, .own 5 0)]) (L' := [(2, 36, (E_script_Step b2)), (5, 36, (E_script_Step b5)), (11, 72, [ls b11.f_l, vb true])]) (by kernel_rfl) ?_
                  refine To.blockN ?_
                  refine To.keep (kk := [2, 4, 5]) (kl := [2, 5, 11]) (K' := [(2, .own 2 0), (4, .own 11 0), (5, .own 5 0)]) (L' := [(2, 36, (E_script_Step b2)), (5, 36, (E_script_Step b5)), (11, 72, [ls b11.f_l, vb true])]) (by kernel_rfl) (by kernel_rfl) ?_
                  cases h
                  exact hQ
end Go.Proofs.YtjjlpomfnfipbaaDoor.M
