/-
  Part of the proof of PortLists: RxCompK.
-/
import Derived.Test.YtonjhkefnijlhaaDoorQRxSortF
import Derived.Test.YtonjhkefnijlhaaDoorQCompK
import Derived.Lib.SlicesCompact
set_option linter.all false
namespace Go.Proofs.YtonjhkefnijlhaaDoor.RX
open Go.RowKit Go.Sort Go.Shelf Go.Lib
def compactL {α : Type} [Inhabited α] [DecidableEq α] (l : List α) : List α := compactUpTo l.toArray l.toArray.size
section
variable {P : Program} {F : Fz} {w1 : Pt P} {B : Env} {α : Type} [Inhabited α] [DecidableEq α] {enc : α → List D} {encV : α → List Value} {k : Nat}
theorem callsB_compactK {f et : Nat} {d : α} {l : List α} (hf : FOK P f) (hE : RawEnc enc encV k)
    (hc : ∀ (blk off cap : Nat) (dd : Array α) (w : World), HoldsK encV k w blk off dd → blk < w.heap.size → dd.size < 4611686018427387904 → dd.size ≤ cap →
      Calls P f #[.slice (some ⟨blk, off, none⟩) dd.size cap] w fun e w' => e = .returned (.slice (some ⟨blk, off, none⟩) (compactUpTo dd dd.size).length cap) ∧ ∃ d' : Array α, SWK encV k w blk off d' w' ∧ d'.size = dd.size ∧ d'.toList.take (compactUpTo dd dd.size).length = compactUpTo dd dd.size)
    (hn : ∀ (p : Option Addr) (cap : Nat) (w : World), Calls P f #[.slice p 0 cap] w fun e w' => e = .returned (.slice p 0 cap) ∧ w' = w)
    (hl : decide (l.length * (k + 1) ≤ limit) = true) : CallsB P f [.row LIM] [(LIM, et, [.rowc false d enc l])] (.recs d enc (compactL l)) [] := by
  refine ⟨hf, fun F w1 B args hb hr => ?_⟩
  have hlim : l.length * (k + 1) ≤ 140737488355328 := of_decide_eq_true hl
  have hp := hE.pos
  have hll : l.length ≤ 140737488355328 := Nat.le_trans (Nat.le_mul_of_pos_right _ (by omega)) hlim
  obtain ⟨p, n, cap, v, hB, hv, rfl⟩ := row_arg hr
  obtain ⟨p', n', cap', hB', hn0, hpos, hge, xs, hxs, hown, hfz⟩ := hb.row' (M := memL [(LIM, et, [D.rowc false d enc l])]) List.mem_cons_self
  rw [hB] at hB'; cases hB'
  have hx := hE.vals hxs
  subst hx
  rw [hE.len d] at hown
  cases p with
  | none =>
    have h0 : l = [] ∧ n = 0 ∧ cap = 0 := by
      rcases hown.2 with ⟨_, h1, h2⟩ | ⟨_, _, _, h, _⟩
      · exact ⟨List.eq_nil_of_length_eq_zero (by omega), h1, h2⟩
      · cases h
    obtain ⟨rfl, rfl, rfl⟩ := h0
    obtain ⟨q, rfl⟩ := isRow_none hv
    refine (hn q 0 w1.w).mono ?_
    rintro e w' ⟨rfl, rfl⟩
    exact ⟨_, F, B, rfl, .recsNil _ _ q, hb.sub fun _ _ _ h => by simp [memL] at h⟩
  | some g =>
    obtain ⟨hH, hg, rfl, hnc, hcm, cur, fz, hh, hsz, htk, hfz'⟩ := hE.holds hown
    obtain rfl := isRow_some hv
    have hcc := hc g 0 cap l.toArray w1.w hH hg (by simp; omega) (by simpa using hnc)
    rw [show l.toArray.size = l.length by simp] at hcc
    refine hcc.mono ?_
    rintro e w' ⟨rfl, d', ⟨q, os, rfl⟩, hds, htake⟩
    have hlen : d'.toList.length = l.length := by simpa using hds
    have hw : sortWorldK encV k w1.w g 0 q d' os = grow (putRow id (Sort.ahead w1.w q) g 0 (d'.toList.flatMap encV).toArray) os := by
      unfold sortWorldK putRowK
      rw [← hE.flat]
    rw [hw]
    have hb2 : Base F w1 B F (memL [(LIM, et, [D.rowc false d enc d'.toList])]) (grow (putRow id (Sort.ahead w1.w q) g 0 (d'.toList.flatMap encV).toArray) os) := hb.turned hB (grownBy_sortedK _) ⟨_, hE.reps d'.toList, by rw [hE.len d]; exact hE.sorted d'.toList hh hlen.symm hnc hcm hsz hfz'⟩ hlen
    obtain ⟨F', hb3, hg3⟩ := hb2.settleRow (k := LIM) (t := et) (m := false) List.mem_cons_self
    obtain ⟨p3, n3, cap3, hB3, hrow3⟩ := hb3.row' (.inl ⟨rfl, rfl, rfl⟩)
    rw [hB] at hB3; cases hB3
    have hrep := hrow3.recs (B := B)
    have h1 : d'.toList.take (compactL l).length = compactL l := by unfold compactL; simpa using htake
    have hpre : compactL l <+: d'.toList := by rw [← h1]; exact List.take_prefix _ _
    exact ⟨_, F', B, rfl, hrep.head hpre hlen.symm, hb3.sub fun _ _ _ h => by simp [memL] at h⟩
end
end Go.Proofs.YtonjhkefnijlhaaDoor.RX
