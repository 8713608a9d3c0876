/-
  Part of the proof of PortLists: RxLib.
-/
import Derived.Test.YtonjhkefnijlhaaDoorQRxGen
import Derived.WalkSmall
import Derived.Lib.Bytealg
import Derived.Lib.IndexMore
import Derived.Lib.SplitLaws
import Derived.Lib.Join
import Derived.Lib.Repeat
import Derived.Lib.Replace
import Derived.Lib.TrimByte
set_option linter.all false
namespace Go.Proofs.YtonjhkefnijlhaaDoor.RX
open Go.RowKit
def encS' : List UInt8 → List D := fun x => [.str x]
def splitL (s sep : List UInt8) : List (List UInt8) := (Lib.splitB ⟨sep.toArray⟩ 0 (Lib.countB ⟨s.toArray⟩ ⟨sep.toArray⟩) ⟨s.toArray⟩).map fun x => x.data.toList
section
variable {P : Program} {F : Fz} {w : World} {B : Env}
theorem args1 {a : List UInt8} {args : List Value} (h : RepL F w B [.str a] args) : args = [.string ⟨a.toArray⟩] := by
  cases h with
  | cons _ v _ vs h1 h2 => cases h2; cases h1; rfl
theorem args2 {a b : List UInt8} {args : List Value} (h : RepL F w B [.str a, .str b] args) : args = [.string ⟨a.toArray⟩, .string ⟨b.toArray⟩] := by
  cases h with
  | cons _ v _ vs h1 h2 => cases h1; rw [args1 h2]
theorem sizeL (l : List UInt8) : (⟨l.toArray⟩ : ByteArray).size = l.length := List.size_toArray
theorem pureX {f : Nat} {ds : List D} {r : D} (hf : FOK P f) (h : ∀ (F : Fz) (w : World) (args : List Value), Shp P w → RepL F w NB ds args → Calls P f args.toArray w fun e w' => ∃ v, e = .returned v ∧ (∀ F' w'', Rep F' w'' NB r v) ∧ Below w.heap.size w w') : CallsX P f ds r :=
  ⟨hf, fun F w args hs _ hr => (h F w args hs hr).mono fun _ _ ⟨v, he, hv, hb⟩ => ⟨v, he, hv _ _, hb⟩⟩
theorem shp_int {g : Nat} (hg : g < P.low) (hs : ∀ w : World, w.ShapedOpen P → ∃ m, w.cell? ⟨g, 0, none⟩ = some (.int .i64 m)) (h : Shp P w) : ∃ m, w.cell? ⟨g, 0, none⟩ = some (.int .i64 m) := by
  obtain ⟨w0, h0, _, h1⟩ := h
  obtain ⟨m, hm⟩ := hs w0 h0
  exact ⟨m, (World.cell?_of_block (h1 g hg)).trans hm⟩
theorem low_gt {g : Nat} (h : Nat.ble g P.globals.size = true) : g < P.low := by
  have : P.low = P.globals.size + 5 := by simp [Program.low, begin]
  have := Nat.le_of_ble_eq_true h
  omega
variable {f : Nat} {a b c : List UInt8}
theorem lib_cut {g : Nat} (hf : FOK P f) (hg : g < P.low) (hs : ∀ w : World, w.ShapedOpen P → ∃ m, w.cell? ⟨g, 0, none⟩ = some (.int .i64 m))
    (hc : ∀ (s sep : ByteArray) (m : Int) (w : World), s.size < 4294967281 → w.cell? ⟨g, 0, none⟩ = some (.int .i64 m) → Calls P f #[.string s, .string sep] w fun e w' => e = .returned (.tuple #[.string ⟨(Lib.cut s.data.toList sep.data.toList).1.toArray⟩, .string ⟨(Lib.cut s.data.toList sep.data.toList).2.1.toArray⟩, .bool (Lib.cut s.data.toList sep.data.toList).2.2]) ∧ ∃ n, w' = w.drewN n)
    (ha : decide (a.length < 4294967281) = true) : CallsX P f [.str a, .str b] (.tup [.str (Lib.cut a b).1, .str (Lib.cut a b).2.1, .val (.bool (Lib.cut a b).2.2)]) := by
  refine pureX hf fun F w args hsh hr => ?_
  rw [args2 hr]
  obtain ⟨m, hm⟩ := shp_int hg hs hsh
  refine (hc ⟨a.toArray⟩ ⟨b.toArray⟩ m w (by rw [sizeL]; exact of_decide_eq_true ha) hm).mono ?_
  rintro e w' ⟨rfl, n, rfl⟩
  exact ⟨_, rfl, fun F' w'' => .tup _ [.string ⟨(Lib.cut a b).1.toArray⟩, .string ⟨(Lib.cut a b).2.1.toArray⟩, .bool (Lib.cut a b).2.2] (.cons _ _ _ _ (.str _) (.cons _ _ _ _ (.str _) (.cons _ _ _ _ (.val _ rfl) .nil))), below_drewN (Below.refl _ _) n⟩
theorem strs_new (l : List (List UInt8)) (F' : Fz) (w' : World) (g t : Nat) (fz : Nat × Nat) (hl : l ≠ []) (hg : ∀ k, F' g k) (hh : w'.heap[g]? = some (.cells (l.map fun x => Value.string ⟨x.toArray⟩).toArray t fz)) :
    Rep F' w' NB (.recs (α := List UInt8) [] encS' l) (.slice (some ⟨g, 0, none⟩) l.length l.length) := by
  refine .recs _ _ l g 0 l.length 1 (fun i => [.string ⟨(l[i]?.getD []).toArray⟩]) rfl (fun _ _ => rfl) (fun i hi => .cons _ _ _ _ (.str _) .nil) (fun i j hi hj => ⟨hg _, ?_⟩) (Nat.le_refl _)
  have : j = 0 := by omega
  subst this
  simp only [World.cell?, hh]
  simp [hi]
theorem lib_split {g t : Nat} (hf : FOK P f) (hg : g < P.low) (hs : ∀ w : World, w.ShapedOpen P → ∃ m, w.cell? ⟨g, 0, none⟩ = some (.int .i64 m))
    (hc : ∀ (s sep : ByteArray) (m : Int) (w : World), s.size < 4294967281 → w.cell? ⟨g, 0, none⟩ = some (.int .i64 m) → 1 ≤ sep.size → Calls P f #[.string s, .string sep] w fun e w' =>
      e = .returned (.slice (some ⟨w.heap.size, 0, none⟩) (Lib.countB s sep + 1) (Lib.countB s sep + 1)) ∧ w' = w.alloc (.cells ((Lib.splitB sep 0 (Lib.countB s sep) s).map Value.string).toArray t))
    (h : decide (a.length < 4294967281 ∧ 1 ≤ b.length) = true) : CallsX P f [.str a, .str b] (.recs (α := List UInt8) [] encS' (splitL a b)) := by
  refine ⟨hf, fun F w args hsh hF hr => ?_⟩
  rw [args2 hr]
  obtain ⟨h1, h2⟩ := of_decide_eq_true h
  obtain ⟨m, hm⟩ := shp_int hg hs hsh
  refine (hc ⟨a.toArray⟩ ⟨b.toArray⟩ m w (by rw [sizeL]; exact h1) hm (by rw [sizeL]; exact h2)).mono ?_
  rintro e w' ⟨rfl, rfl⟩
  refine ⟨_, rfl, ?_, (Below.refl _ w).alloc (Nat.le_refl _) _⟩
  have hlen : (splitL a b).length = Lib.countB ⟨a.toArray⟩ ⟨b.toArray⟩ + 1 := by
    unfold splitL; rw [List.length_map]
    exact Lib.splitB_all _ (by rw [sizeL]; exact h2) 0 _ _ rfl
  rw [← hlen]
  refine strs_new (splitL a b) _ _ w.heap.size t (0, 0) ?_ (fun k => .inr ⟨Nat.le_refl _, by show w.heap.size < (w.heap.push _).size; rw [Array.size_push]; omega⟩) ?_
  · intro e
    rw [e, List.length_nil] at hlen; omega
  · have : (splitL a b).map (fun x => Value.string ⟨x.toArray⟩) = (Lib.splitB ⟨b.toArray⟩ 0 (Lib.countB ⟨a.toArray⟩ ⟨b.toArray⟩) ⟨a.toArray⟩).map Value.string := by
      unfold splitL
      rw [List.map_map]; rfl
    rw [this]
    show (w.heap.push _)[w.heap.size]? = _
    rw [Array.getElem?_push_size]
end
end Go.Proofs.YtonjhkefnijlhaaDoor.RX
