import Derived.Test.YtjjlpomfnfipbaaDoorQRxGen
import Derived.WalkSmall
import Derived.Lib.Bytealg
import Derived.Lib.IndexMore
import Derived.Lib.SplitLaws
import Derived.Lib.Join
import Derived.Lib.Repeat
import Derived.Lib.Replace
import Derived.Lib.TrimByte
set_option linter.all false
namespace Go.Proofs.YtjjlpomfnfipbaaDoor.RX
open Go.RowKit
def encS' : List UInt8 → List D := fun x => [.str x]
def splitL (s sep : List UInt8) : List (List UInt8) := (Lib.splitB ⟨sep.toArray⟩ 0 (Lib.countB ⟨s.toArray⟩ ⟨sep.toArray⟩) ⟨s.toArray⟩).map fun x => x.data.toList
section
variable {P : Program} {F : Fz} {w : World} {B : Env}
theorem args1 {a : List UInt8} {args : List Value} (h : RepL F w B [.str a] args) : args = [.string ⟨a.toArray⟩] := by
  cases h with
  | cons _ v _ vs h1 h2 => cases h2; cases h1; rfl
theorem args2 {a b : List UInt8} {args : List Value} (h : RepL F w B [.str a, .str b] args) : args = [.string ⟨a.toArray⟩, .string ⟨b.toArray⟩] := by
  cases h with
  | cons _ v _ vs h1 h2 => cases h1; rw [args1 h2]
theorem sizeL (l : List UInt8) : (⟨l.toArray⟩ : ByteArray).size = l.length := List.size_toArray
theorem shp_int {g : Nat} (hg : g < P.low) (hs : ∀ w : World, w.ShapedOpen P → ∃ m, w.cell? ⟨g, 0, none⟩ = some (.int .i64 m)) (h : Shp P w) : ∃ m, w.cell? ⟨g, 0, none⟩ = some (.int .i64 m) := by
  obtain ⟨w0, h0, _, h1⟩ := h
  obtain ⟨m, hm⟩ := hs w0 h0
  exact ⟨m, (World.cell?_of_block (h1 g hg)).trans hm⟩
theorem low_gt {g : Nat} (h : Nat.ble g P.globals.size = true) : g < P.low := by
  have : P.low = P.globals.size + 5 := by simp [Program.low, begin]
  have := Nat.le_of_ble_eq_true h
  omega
variable {f : Nat} {a b c : List UInt8}
theorem strs_arg {l : List (List UInt8)} {v : Value} (h : Rep F w NB (.recs (α := List UInt8) [] encS' l) v) (hF : ∀ g k, F g k → g < w.heap.size) :
    (l = [] ∧ ∃ p, v = .slice p 0 0) ∨ ∃ g off cap, v = .slice (some ⟨g, off, none⟩) l.length cap ∧ l.length ≤ cap ∧ (l ≠ [] → g < w.heap.size) ∧ ∀ (j : Nat) x, l[j]? = some x → w.cell? ⟨g, off + j, none⟩ = some (.string ⟨x.toArray⟩) := by
  cases h with
  | recsNil _ _ p => exact .inl ⟨rfl, p, rfl⟩
  | recs _ _ _ g off cap size vs hz h1 h2 h3 hc =>
    have hz1 : size = 1 := hz
    subst hz1
    refine .inr ⟨g, off, cap, rfl, hc, fun hl => ?_, fun j x hj => ?_⟩
    · have : 0 < l.length := List.length_pos_iff.2 hl
      exact hF _ _ (h3 0 0 this (by omega)).1
    · have hjl : j < l.length := (List.getElem?_eq_some_iff.1 hj).1
      have e2 := h2 j hjl
      rw [hj] at e2
      have e3 := (h3 j 0 hjl (by omega)).2
      have : vs j = [.string ⟨x.toArray⟩] := args1 e2
      rw [this] at e3
      simpa using e3
theorem strs_new (l : List (List UInt8)) (F' : Fz) (w' : World) (g t : Nat) (fz : Nat × Nat) (hl : l ≠ []) (hg : ∀ k, F' g k) (hh : w'.heap[g]? = some (.cells (l.map fun x => Value.string ⟨x.toArray⟩).toArray t fz)) :
    Rep F' w' NB (.recs (α := List UInt8) [] encS' l) (.slice (some ⟨g, 0, none⟩) l.length l.length) := by
  refine .recs _ _ l g 0 l.length 1 (fun i => [.string ⟨(l[i]?.getD []).toArray⟩]) rfl (fun _ _ => rfl) (fun i hi => .cons _ _ _ _ (.str _) .nil) (fun i j hi hj => ⟨hg _, ?_⟩) (Nat.le_refl _)
  have : j = 0 := by omega
  subst this
  simp only [World.cell?, hh]
  simp [hi]
theorem lib_join (hf : FOK P f) {l : List (List UInt8)}
    (hc : ∀ (bk o c : Nat) (xs : List ByteArray) (sep : ByteArray) (w : World), (∀ (j : Nat) x, xs[j]? = some x → w.cell? ⟨bk, o + j, none⟩ = some (.string x)) → bk < w.heap.size → xs.length ≤ 140737488355328 → xs.length ≤ c → (Lib.join (xs.map (·.data.toList)) sep.data.toList).length ≤ 140737488355328 →
      Calls P f #[.slice (some ⟨bk, o, none⟩) xs.length c, .string sep] w fun e w' => e = .returned (.string ⟨(Lib.join (xs.map (·.data.toList)) sep.data.toList).toArray⟩) ∧ Below w.heap.size w w')
    (hn : ∀ (p : Option Addr) (c : Nat) (sep : ByteArray) (w : World), Calls P f #[.slice p 0 c, .string sep] w fun e w' => e = .returned (.string ByteArray.empty) ∧ w' = w)
    (h : decide (l.length ≤ limit ∧ (Lib.join l b).length ≤ limit) = true) : CallsX P f [.recs (α := List UInt8) [] encS' l, .str b] (.str (Lib.join l b)) := by
  refine ⟨hf, fun F w args hsh hF hr => ?_⟩
  obtain ⟨h1, h2⟩ := of_decide_eq_true h
  cases hr with
  | cons _ v _ vs hv hs =>
    rw [args1 hs]
    by_cases hl : l = []
    · subst hl
      have hz : ∃ p c, v = .slice p 0 c := by
        rcases strs_arg hv hF with ⟨_, p, rfl⟩ | ⟨g, off, cap, rfl, _⟩
        · exact ⟨_, _, rfl⟩
        · exact ⟨_, _, rfl⟩
      obtain ⟨p, c, rfl⟩ := hz
      refine (hn p c ⟨b.toArray⟩ w).mono ?_
      rintro e w' ⟨rfl, rfl⟩
      exact ⟨_, rfl, .str _, Below.refl _ _⟩
    · rcases strs_arg hv hF with ⟨e, _⟩ | ⟨g, off, cap, rfl, hcap, hg, hcells⟩
      · exact absurd e hl
      · have := hc g off cap (l.map fun x => ⟨x.toArray⟩) ⟨b.toArray⟩ w (fun j x hj => by
            rw [List.getElem?_map] at hj
            cases hx : l[j]? with
            | none => rw [hx] at hj; cases hj
            | some y => rw [hx] at hj; cases hj; exact hcells j y hx) (hg hl) (by rw [List.length_map]; exact h1) (by rw [List.length_map]; exact hcap) (by
              rw [List.map_map, show ((fun x : ByteArray => x.data.toList) ∘ fun x : List UInt8 => (⟨x.toArray⟩ : ByteArray)) = id from rfl, List.map_id]; exact h2)
        rw [List.length_map, List.map_map, show ((fun x : ByteArray => x.data.toList) ∘ fun x : List UInt8 => (⟨x.toArray⟩ : ByteArray)) = id from rfl, List.map_id] at this
        refine this.mono ?_
        rintro e w' ⟨rfl, hb⟩
        exact ⟨_, rfl, .str _, hb⟩
theorem lib_split {g t : Nat} (hf : FOK P f) (hg : g < P.low) (hs : ∀ w : World, w.ShapedOpen P → ∃ m, w.cell? ⟨g, 0, none⟩ = some (.int .i64 m))
    (hc : ∀ (s sep : ByteArray) (m : Int) (w : World), s.size < 4294967281 → w.cell? ⟨g, 0, none⟩ = some (.int .i64 m) → 1 ≤ sep.size → Calls P f #[.string s, .string sep] w fun e w' =>
      e = .returned (.slice (some ⟨w.heap.size, 0, none⟩) (Lib.countB s sep + 1) (Lib.countB s sep + 1)) ∧ w' = w.alloc (.cells ((Lib.splitB sep 0 (Lib.countB s sep) s).map Value.string).toArray t))
    (h : decide (a.length < 4294967281 ∧ 1 ≤ b.length) = true) : CallsX P f [.str a, .str b] (.recs (α := List UInt8) [] encS' (splitL a b)) := by
  refine ⟨hf, fun F w args hsh hF hr => ?_⟩
  rw [args2 hr]
  obtain ⟨h1, h2⟩ := of_decide_eq_true h
  obtain ⟨m, hm⟩ := shp_int hg hs hsh
  refine (hc ⟨a.toArray⟩ ⟨b.toArray⟩ m w (by rw [sizeL]; exact h1) hm (by rw [sizeL]; exact h2)).mono ?_
  rintro e w' ⟨rfl, rfl⟩
  refine ⟨_, rfl, ?_, (Below.refl _ w).alloc (Nat.le_refl _) _⟩
  have hlen : (splitL a b).length = Lib.countB ⟨a.toArray⟩ ⟨b.toArray⟩ + 1 := by
    unfold splitL; rw [List.length_map]
    exact Lib.splitB_all _ (by rw [sizeL]; exact h2) 0 _ _ rfl
  rw [← hlen]
  refine strs_new (splitL a b) _ _ w.heap.size t (0, 0) ?_ (fun k => .inr ⟨Nat.le_refl _, by show w.heap.size < (w.heap.push _).size; rw [Array.size_push]; omega⟩) ?_
  · intro e
    rw [e, List.length_nil] at hlen; omega
  · have : (splitL a b).map (fun x => Value.string ⟨x.toArray⟩) = (Lib.splitB ⟨b.toArray⟩ 0 (Lib.countB ⟨a.toArray⟩ ⟨b.toArray⟩) ⟨a.toArray⟩).map Value.string := by
      unfold splitL
      rw [List.map_map]; rfl
    rw [this]
    show (w.heap.push _)[w.heap.size]? = _
    rw [Array.getElem?_push_size]
end
end Go.Proofs.YtjjlpomfnfipbaaDoor.RX
