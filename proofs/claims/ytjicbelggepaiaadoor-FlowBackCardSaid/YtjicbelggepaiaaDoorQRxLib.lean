/-
  Part of the proof of FlowBack: RxLib.
-/
import Derived.Test.YtjicbelggepaiaaDoorQRxGen
import Derived.WalkSmall
import Derived.Lib.Bytealg
import Derived.Lib.IndexMore
import Derived.Lib.SplitLaws
import Derived.Lib.Join
import Derived.Lib.Repeat
import Derived.Lib.Replace
import Derived.Lib.TrimByte
set_option linter.all false
namespace Go.Proofs.YtjicbelggepaiaaDoor.RX
open Go.RowKit
def encS' : List UInt8 → List D := fun x => [.str x]
section
variable {P : Program} {F : Fz} {w : World} {B : Env}
theorem args1 {a : List UInt8} {args : List Value} (h : RepL F w B [.str a] args) : args = [.string ⟨a.toArray⟩] := by
  cases h with
  | cons _ v _ vs h1 h2 => cases h2; cases h1; rfl
theorem args2 {a b : List UInt8} {args : List Value} (h : RepL F w B [.str a, .str b] args) : args = [.string ⟨a.toArray⟩, .string ⟨b.toArray⟩] := by
  cases h with
  | cons _ v _ vs h1 h2 => cases h1; rw [args1 h2]
theorem args2i {a : List UInt8} {k : IntKind} {n : Int} {args : List Value} (h : RepL F w B [.str a, .val (.int k n)] args) : args = [.string ⟨a.toArray⟩, .int k n] := by
  cases h with
  | cons _ v _ vs h1 h2 =>
    cases h1
    cases h2 with
    | cons _ v _ vs h3 h4 => cases h4; cases h3; rfl
theorem sizeL (l : List UInt8) : (⟨l.toArray⟩ : ByteArray).size = l.length := List.size_toArray
theorem pureX {f : Nat} {ds : List D} {r : D} (hf : FOK P f) (h : ∀ (F : Fz) (w : World) (args : List Value), Shp P w → RepL F w NB ds args → Calls P f args.toArray w fun e w' => ∃ v, e = .returned v ∧ (∀ F' w'', Rep F' w'' NB r v) ∧ Below w.heap.size w w') : CallsX P f ds r :=
  ⟨hf, fun F w args hs _ hr => (h F w args hs hr).mono fun _ _ ⟨v, he, hv, hb⟩ => ⟨v, he, hv _ _, hb⟩⟩
variable {f : Nat} {a b c : List UInt8}
theorem lib_indexByte {n : Int} (hf : FOK P f) (hc : ∀ (s : ByteArray) (c : Int) (w : World), Calls P f #[.string s, .int .u8 c] w fun e w' => e = .returned (.int .i64 (Lib.indexByte s.data.toList c.toNat.toUInt8)) ∧ w' = w) : CallsX P f [.str a, .val (.int .u8 n)] (.val (.int .i64 (Lib.indexByte a n.toNat.toUInt8))) := by
  refine pureX hf fun F w args _ hr => ?_
  rw [args2i hr]
  refine (hc ⟨a.toArray⟩ n w).mono ?_
  rintro e w' ⟨rfl, rfl⟩
  exact ⟨_, rfl, fun F' w'' => .val _ rfl, Below.refl _ _⟩
theorem lib_trimRight1 {x : UInt8} (hf : FOK P f) (hc : ∀ (s : ByteArray) (c : UInt8), c.toNat < 128 → ∀ w : World, s.size ≤ 9223372036854775807 → Calls P f #[.string s, .string ⟨#[c]⟩] w fun e w' => e = .returned (.string ⟨(Lib.trimRightB s.data.toList c).toArray⟩) ∧ w' = w) (hx : x.toNat < 128)
    (ha : decide (a.length < 4294967281) = true) : CallsX P f [.str a, .str [x]] (.str (Lib.trimRightB a x)) := by
  refine pureX hf fun F w args _ hr => ?_
  rw [args2 hr]
  have := of_decide_eq_true ha
  refine (hc ⟨a.toArray⟩ x hx w (by rw [sizeL]; omega)).mono ?_
  rintro e w' ⟨rfl, rfl⟩
  exact ⟨_, rfl, fun F' w'' => .str _, Below.refl _ _⟩
theorem strs_arg {l : List (List UInt8)} {v : Value} (h : Rep F w NB (.recs (α := List UInt8) [] encS' l) v) (hF : ∀ g k, F g k → g < w.heap.size) :
    (l = [] ∧ ∃ p, v = .slice p 0 0) ∨ ∃ g off cap, v = .slice (some ⟨g, off, none⟩) l.length cap ∧ l.length ≤ cap ∧ (l ≠ [] → g < w.heap.size) ∧ ∀ (j : Nat) x, l[j]? = some x → w.cell? ⟨g, off + j, none⟩ = some (.string ⟨x.toArray⟩) := by
  cases h with
  | recsNil _ _ p => exact .inl ⟨rfl, p, rfl⟩
  | recs _ _ _ g off cap size vs hz h1 h2 h3 hc =>
    have hz1 : size = 1 := hz
    subst hz1
    refine .inr ⟨g, off, cap, rfl, hc, fun hl => ?_, fun j x hj => ?_⟩
    · have : 0 < l.length := List.length_pos_iff.2 hl
      exact hF _ _ (h3 0 0 this (by omega)).1
    · have hjl : j < l.length := (List.getElem?_eq_some_iff.1 hj).1
      have e2 := h2 j hjl
      rw [hj] at e2
      have e3 := (h3 j 0 hjl (by omega)).2
      have : vs j = [.string ⟨x.toArray⟩] := args1 e2
      rw [this] at e3
      simpa using e3
theorem lib_join (hf : FOK P f) {l : List (List UInt8)}
    (hc : ∀ (bk o c : Nat) (xs : List ByteArray) (sep : ByteArray) (w : World), (∀ (j : Nat) x, xs[j]? = some x → w.cell? ⟨bk, o + j, none⟩ = some (.string x)) → bk < w.heap.size → xs.length ≤ 140737488355328 → xs.length ≤ c → (Lib.join (xs.map (·.data.toList)) sep.data.toList).length ≤ 140737488355328 →
      Calls P f #[.slice (some ⟨bk, o, none⟩) xs.length c, .string sep] w fun e w' => e = .returned (.string ⟨(Lib.join (xs.map (·.data.toList)) sep.data.toList).toArray⟩) ∧ Below w.heap.size w w')
    (hn : ∀ (p : Option Addr) (c : Nat) (sep : ByteArray) (w : World), Calls P f #[.slice p 0 c, .string sep] w fun e w' => e = .returned (.string ByteArray.empty) ∧ w' = w)
    (h : decide (l.length ≤ limit ∧ (Lib.join l b).length ≤ limit) = true) : CallsX P f [.recs (α := List UInt8) [] encS' l, .str b] (.str (Lib.join l b)) := by
  refine ⟨hf, fun F w args hsh hF hr => ?_⟩
  obtain ⟨h1, h2⟩ := of_decide_eq_true h
  cases hr with
  | cons _ v _ vs hv hs =>
    rw [args1 hs]
    by_cases hl : l = []
    · subst hl
      have hz : ∃ p c, v = .slice p 0 c := by
        rcases strs_arg hv hF with ⟨_, p, rfl⟩ | ⟨g, off, cap, rfl, _⟩
        · exact ⟨_, _, rfl⟩
        · exact ⟨_, _, rfl⟩
      obtain ⟨p, c, rfl⟩ := hz
      refine (hn p c ⟨b.toArray⟩ w).mono ?_
      rintro e w' ⟨rfl, rfl⟩
      exact ⟨_, rfl, .str _, Below.refl _ _⟩
    · rcases strs_arg hv hF with ⟨e, _⟩ | ⟨g, off, cap, rfl, hcap, hg, hcells⟩
      · exact absurd e hl
      · have := hc g off cap (l.map fun x => ⟨x.toArray⟩) ⟨b.toArray⟩ w (fun j x hj => by
            rw [List.getElem?_map] at hj
            cases hx : l[j]? with
            | none => rw [hx] at hj; cases hj
            | some y => rw [hx] at hj; cases hj; exact hcells j y hx) (hg hl) (by rw [List.length_map]; exact h1) (by rw [List.length_map]; exact hcap) (by
              rw [List.map_map, show ((fun x : ByteArray => x.data.toList) ∘ fun x : List UInt8 => (⟨x.toArray⟩ : ByteArray)) = id from rfl, List.map_id]; exact h2)
        rw [List.length_map, List.map_map, show ((fun x : ByteArray => x.data.toList) ∘ fun x : List UInt8 => (⟨x.toArray⟩ : ByteArray)) = id from rfl, List.map_id] at this
        refine this.mono ?_
        rintro e w' ⟨rfl, hb⟩
        exact ⟨_, rfl, .str _, hb⟩
end
end Go.Proofs.YtjicbelggepaiaaDoor.RX
