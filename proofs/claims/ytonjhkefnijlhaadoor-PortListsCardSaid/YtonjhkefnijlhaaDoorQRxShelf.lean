/-
  Part of the proof of PortLists: RxShelf.
-/
import Derived.Test.YtonjhkefnijlhaaDoorQRxGen
import Derived.Sort.OwnSorted
import Derived.Shelf.Vars
import Derived.Shelf.Slices.CompactS
import Derived.Shelf.Spec.SlicesGrow
set_option linter.all false
namespace Go.Proofs.YtonjhkefnijlhaaDoor.RX
open Go.RowKit Go.Sort
section
variable {P : Program} {F : Fz} {w1 : Pt P} {B : Env}
theorem Rep.head {F : Fz} {w : World} {B : Env} {α : Type} {d : α} {enc : α → List D} {l l1 : List α} {p : Option Nat} {n cap : Nat} (h : Rep F w B (.recs d enc l) (rowVal p n cap)) (hp : l1 <+: l) (hn : n = l.length) : Rep F w B (.recs d enc l1) (.slice (p.map fun b => ⟨b, 0, none⟩) l1.length cap) := by
  generalize hv : rowVal p n cap = v at h
  unfold rowVal at hv
  cases h with
  | recsNil _ _ q =>
    have : l1 = [] := List.prefix_nil.1 hp
    subst this
    injection hv with e1 e2 e3
    rw [e1, e3]
    exact .recsNil d enc _
  | recs _ _ _ g off cap size vs hz h1 h2 h3 hc =>
    have hle := hp.length_le
    obtain ⟨ys, rfl⟩ := hp
    injection hv with e1 e2 e3
    rw [e1, e3]
    refine .recs d enc l1 g off cap size vs hz (fun i hi => h1 i (by omega)) (fun i hi => ?_) (fun i j hi hj => h3 i j (by omega) hj) (by omega)
    have := h2 i (by omega)
    rwa [List.getElem?_append_left hi] at this
theorem Base.turned {k t g n cap : Nat} {α : Type} {d : α} {enc : α → List D} {l l' : List α} {w' : World} (hb : Base F w1 B F (memL [(k, t, [.rowc false d enc l])]) w1.w)
    (hB : B k = some (.row (some g) n cap)) (hgr : w1.w.grownBy w' (some g)) (hown : ∃ xs, RepL F w' NB (l'.flatMap enc) xs ∧ OwnRow w' t (enc d).length (some g) n cap xs) (hl : l'.length = l.length) :
    Base F w1 B F (memL [(k, t, [.rowc false d enc l'])]) w' := by
  have hm : memL [(k, t, [D.rowc false d enc l])] k t [.rowc false d enc l] := List.mem_cons_self
  obtain ⟨p, n0, cap0, hB0, hn0, hpos, hge, xs, hxs, hown0, hfz⟩ := hb.row' hm
  rw [hB] at hB0; cases hB0
  have hnf : ∀ j, ¬ F g j := fun j hj => by have := (hfz g rfl j).1 hj; simp at this
  have hfr := hb.new _ _ _ g hm (blkOf_row hB)
  have hone : ∀ j t' ds, memL [(k, t, [D.rowc false d enc l'])] j t' ds → j = k ∧ t' = t ∧ ds = [.rowc false d enc l'] := by
    intro j t' ds h
    have := List.mem_singleton.1 h
    cases this; exact ⟨rfl, rfl, rfl⟩
  refine ⟨fun j t' ds h => ?_, fun j t' ds b h hbk => ?_, fun i j b hi hj _ _ => ?_, fun g' j hF => Nat.lt_of_lt_of_le (hb.frz g' j hF) hgr.size, hb.more, ⟨fun _ _ h => h, fun g' j hF => ?_⟩, ⟨hgr.os, hgr.tape, hgr.output, hgr.size, fun j hj hno => ?_⟩, hb.env⟩
  · obtain ⟨rfl, rfl, rfl⟩ := hone _ _ _ h
    obtain ⟨xs', h1, h2⟩ := hown
    exact .row false d enc l' (some g) n cap hB ⟨by rw [hl]; exact hn0, hpos, hge, xs', h1, h2, hfz⟩
  · obtain ⟨rfl, rfl, rfl⟩ := hone _ _ _ h
    exact hb.new _ _ _ b hm hbk
  · obtain ⟨_, _, h1⟩ := hi
    obtain ⟨_, _, h2⟩ := hj
    rw [(hone _ _ _ h1).1, (hone _ _ _ h2).1]
  · have hne : g' ≠ g := fun e => by subst e; exact hnf j hF
    exact World.cell?_of_block (hgr.block g' (hb.frz g' j hF) (fun e => hne (Option.some.inj e)))
  · refine hgr.block j hj fun e => ?_
    cases e
    rcases hfr with h | h
    · exact absurd hj (Nat.not_lt.2 h)
    · exact hno h
theorem row_arg {w : World} {args : List Value} {k : Nat} (hr : RepL F w B [.row k] args) : ∃ p n cap v, B k = some (.row p n cap) ∧ IsRow v p n cap ∧ args = [v] := by
  cases hr with
  | cons _ v _ vs h hs =>
    cases hs
    cases h with
    | row _ p n cap h => exact ⟨p, n, cap, _, h, .inl rfl, rfl⟩
    | rowNil _ q h => exact ⟨none, 0, 0, _, h, .inr ⟨rfl, rfl, rfl, q, rfl⟩, rfl⟩
theorem isRow_none {v : Value} (h : IsRow v none 0 0) : ∃ q, v = .slice q 0 0 := by
  rcases h with rfl | ⟨_, _, _, q, rfl⟩
  · exact ⟨none, rfl⟩
  · exact ⟨q, rfl⟩
theorem isRow_some {v : Value} {g n cap : Nat} (h : IsRow v (some g) n cap) : v = .slice (some ⟨g, 0, none⟩) n cap := by
  rcases h with rfl | ⟨h, _⟩
  · rfl
  · cases h
end
end Go.Proofs.YtonjhkefnijlhaaDoor.RX
