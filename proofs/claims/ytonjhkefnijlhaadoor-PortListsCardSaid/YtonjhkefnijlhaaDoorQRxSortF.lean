/-
  Part of the proof of PortLists: RxSortF.
-/
import Derived.Test.YtonjhkefnijlhaaDoorQRxShelf
import Derived.Shelf.SlSortCmp.NoneTotal
set_option linter.all false
namespace Go.Proofs.YtonjhkefnijlhaaDoor.RX
open Go.RowKit Go.Sort Go.Shelf
open Go.Proofs (CmpLays ltOf)
structure RawEnc {α : Type} (enc : α → List D) (encV : α → List Value) (k : Nat) : Prop where
  pos : 0 < k
  lenV : ∀ x, (encV x).length = k
  len : ∀ x, (enc x).length = k
  one : ∀ x, ∀ v ∈ encV x, v.oneCell' = true
  rep : ∀ (F : Fz) (w : World) (B : Env) (x : α), RepL F w B (enc x) (encV x)
  uniq : ∀ (F : Fz) (w : World) (B : Env) (x : α) (vs : List Value), RepL F w B (enc x) vs → vs = encV x
def sortBy {α : Type} (cf : α → α → Int) (l : List α) : List α := l.mergeSort fun x y => !(ltOf cf y x)
section
variable {P : Program} {F : Fz} {w1 : Pt P} {B : Env} {α : Type} [Inhabited α] {enc : α → List D} {encV : α → List Value} {k : Nat}
theorem RawEnc.vals (h : RawEnc enc encV k) {w : World} {B : Env} : ∀ {l : List α} {xs : List Value}, RepL F w B (l.flatMap enc) xs → xs = l.flatMap encV
  | [], _, hr => by cases hr; rfl
  | x :: l, xs, hr => by
    rw [List.flatMap_cons] at hr ⊢
    have h1 := hr.take k
    have h2 := hr.drop k
    rw [List.take_left' (h.len x)] at h1
    rw [List.drop_left' (h.len x)] at h2
    rw [← List.take_append_drop k xs, h.uniq _ _ _ _ _ h1, RawEnc.vals h h2]
theorem RawEnc.reps (h : RawEnc enc encV k) {w : World} {B : Env} : ∀ l : List α, RepL F w B (l.flatMap enc) (l.flatMap encV)
  | [] => .nil
  | x :: l => by
    rw [List.flatMap_cons, List.flatMap_cons]
    exact (h.rep F w B x).append (RawEnc.reps h l)
theorem RawEnc.lens (h : RawEnc enc encV k) : ∀ l : List α, (l.flatMap encV).length = l.length * k
  | [] => by simp
  | x :: l => by rw [List.flatMap_cons, List.length_append, h.lenV, RawEnc.lens h l, List.length_cons, Nat.add_mul]; omega
theorem RawEnc.get (h : RawEnc enc encV k) : ∀ (l : List α) (t : Nat), t < l.length * k → (l.flatMap encV)[t]? = (encV l[t / k]!)[t % k]?
  | [], t, ht => by simp at ht
  | x :: l, t, ht => by
    rw [List.flatMap_cons]
    by_cases hk : t < k
    · rw [List.getElem?_append_left (by rw [h.lenV]; exact hk), Nat.div_eq_of_lt hk, Nat.mod_eq_of_lt hk]; rfl
    · have hp := h.pos
      rw [List.getElem?_append_right (by rw [h.lenV]; omega), h.lenV, RawEnc.get h l (t - k) (by rw [List.length_cons, Nat.add_mul] at ht; omega)]
      have e1 : t / k = (t - k) / k + 1 := by
        conv => lhs; rw [show t = t - k + k by omega]
        exact Nat.add_div_right _ hp
      have e2 : t % k = (t - k) % k := by
        conv => lhs; rw [show t = t - k + k by omega]
        exact Nat.add_mod_right _ _
      rw [e1, e2]
      rfl
theorem RawEnc.flat (h : RawEnc enc encV k) (l : List α) : flatK encV k l.toArray = (l.flatMap encV).toArray := by
  apply Array.ext
  · rw [size_flatK]; simp [h.lens l]
  · intro t h1 h2
    rw [size_flatK] at h1
    have hs : l.toArray.size = l.length := by simp
    rw [hs] at h1
    have hg := get_flatK encV k l.toArray t (by rw [hs]; exact h1)
    have h3 : t < (flatK encV k l.toArray).size := by rw [size_flatK, hs]; exact h1
    rw [getElem!_pos (flatK encV k l.toArray) t h3] at hg
    rw [hg]
    have hl := h.get l t h1
    have h4 : t < (l.flatMap encV).length := by rw [h.lens]; exact h1
    rw [List.getElem?_eq_getElem h4] at hl
    have h5 : t % k < (encV l[t / k]!).length := by rw [h.lenV]; exact Nat.mod_lt _ h.pos
    rw [List.getElem?_eq_getElem h5, Option.some.injEq] at hl
    have h6 : l.toArray[t / k]! = l[t / k]! := by simp
    rw [h6, getElem!_pos (encV l[t / k]!) (t % k) h5, ← hl]
    simp
theorem RawEnc.holds (h : RawEnc enc encV k) {w : World} {g t n cap : Nat} {l : List α} (hown : OwnRow w t k (some g) n cap (l.flatMap encV)) : HoldsK encV k w g 0 l.toArray ∧ g < w.heap.size ∧ n = l.length ∧ n ≤ cap ∧ cap ≤ maxLen ∧
    ∃ cur fz, w.heap[g]? = some (.cells cur t fz) ∧ cur.size = cap * k ∧ cur.toList.take (n * k) = l.flatMap encV ∧ ∀ j, j < cur.size → ¬ (fz.1 ≤ j ∧ j < fz.2) := by
  obtain ⟨hlen, hc⟩ := hown
  rw [h.lens] at hlen
  have hn : n = l.length := (Nat.eq_of_mul_eq_mul_right h.pos hlen).symm
  rcases hc with ⟨hx, _⟩ | ⟨g', cur, fz, hp, hh, hfz, hnc, hcm, hsz, htk⟩
  · cases hx
  · cases hp
    have hle : n * k ≤ cur.size := by rw [hsz]; exact Nat.mul_le_mul_right k hnc
    refine ⟨?_, (Array.getElem?_eq_some_iff.1 hh).1, hn, hnc, hcm, cur, fz, hh, hsz, htk, hfz⟩
    unfold HoldsK
    rw [h.flat]
    intro j hj
    have hj' : j < (l.flatMap encV).length := by simpa using hj
    have hj2 : j < n * k := by rw [hn, ← h.lens]; exact hj'
    have hjc : j < cur.size := by omega
    have h1 : (l.flatMap encV)[j]? = some cur[j] := by
      rw [← htk, List.getElem?_take, if_pos hj2, Array.getElem?_toList, Array.getElem?_eq_getElem hjc]
    rw [List.getElem?_eq_getElem hj', Option.some.injEq] at h1
    refine ⟨?_, ?_⟩
    · simp only [World.cell?, hh, Nat.zero_add]
      rw [Array.getElem?_eq_getElem hjc, ← h1]
      simp only [id_eq, Option.isSome_none, Bool.false_eq_true, if_false, Option.some.injEq]
      rw [getElem!_pos (l.flatMap encV).toArray j (by simpa using hj')]
      simp
    · have := hfz j hjc
      simp only [World.frozen?, hh, Nat.zero_add]
      rw [Bool.and_eq_false_iff]
      by_cases hc : fz.1 ≤ j
      · right; simp; omega
      · left; simpa using hc
theorem heap_sortedK {w : World} {g n : Nat} {os : Array Obj} {cur : Array Value} {e : TypeId} {fr : Nat × Nat} (d : Array Value) (hb : w.heap[g]? = some (.cells cur e fr)) :
    (grow (putRow id (Sort.ahead w n) g 0 d) os).heap[g]? = some (.cells (putCells id 0 d cur) e fr) := by
  have hg : g < w.heap.size := (Array.getElem?_eq_some_iff.1 hb).1
  rw [heap_grow_old _ _ (by simpa using hg)]
  simp [putRow, mapBlock, Sort.ahead, Array.getElem?_modify, hb, onCells]
theorem grownBy_sortedK {w : World} {g n : Nat} {os : Array Obj} (d : Array Value) : w.grownBy (grow (putRow id (Sort.ahead w n) g 0 d) os) (some g) := by
  refine ⟨rfl, rfl, rfl, by simp, fun k hk hne => ?_⟩
  rw [heap_grow_old _ _ (by simpa using hk)]
  have : g ≠ k := fun e => hne (by rw [e])
  simp [putRow, mapBlock, Sort.ahead, Array.getElem?_modify, this]
theorem take_putCellsK (cur : Array Value) (ts : List Value) (h : ts.length ≤ cur.size) : (putCells id 0 ts.toArray cur).toList.take ts.length = ts := by
  apply List.ext_getElem?
  intro j
  by_cases hj : j < ts.length
  · rw [List.getElem?_take_of_lt hj, Array.getElem?_toList]
    have hjc : j < cur.size := by omega
    simp [putCells, hj, hjc]
  · rw [List.getElem?_eq_none (by rw [List.length_take]; omega), List.getElem?_eq_none (by omega)]
theorem RawEnc.sorted (h : RawEnc enc encV k) {w : World} {g t cap n q : Nat} {os : Array Obj} {cur : Array Value} {fz : Nat × Nat} (ts : List α) (hh : w.heap[g]? = some (.cells cur t fz)) (hn : n = ts.length) (hnc : n ≤ cap) (hcm : cap ≤ maxLen) (hsz : cur.size = cap * k) (hfz : ∀ j, j < cur.size → ¬ (fz.1 ≤ j ∧ j < fz.2)) :
    OwnRow (grow (putRow id (Sort.ahead w q) g 0 (ts.flatMap encV).toArray) os) t k (some g) n cap (ts.flatMap encV) := by
  have h1 := heap_sortedK (n := q) (os := os) (ts.flatMap encV).toArray hh
  have hl := h.lens ts
  have hle : n * k ≤ cap * k := Nat.mul_le_mul_right k hnc
  refine ⟨by rw [hl, hn], .inr ⟨g, _, fz, rfl, h1, ?_, hnc, hcm, ?_, ?_⟩⟩
  · intro j hj
    exact hfz j (by simpa [putCells] using hj)
  · simpa [putCells] using hsz
  · rw [hn, ← hl]
    exact take_putCellsK cur _ (by rw [hl, ← hn, hsz]; exact hle)
theorem callsB_sortFunc {f et g0 : Nat} {d : α} {l : List α} {cf : α → α → Int} (hf : FOK P f) (hE : RawEnc enc encV k)
    (hc : ∀ (blk off cap : Nat) (dd : Array α) (w : World), HoldsK encV k w blk off dd → blk < w.heap.size → dd.size < 4611686018427387904 →
      Calls P f #[.slice (some ⟨blk, off, none⟩) dd.size cap, .func (.func g0) #[] #[]] w fun e w' => e = .returned (.tuple #[]) ∧ ∃ n os, w' = sortWorldK encV k w blk off n (dd.toList.mergeSort fun x y => !(ltOf cf y x)).toArray os)
    (hn : ∀ (p : Option Addr) (cap : Nat) (w : World), Calls P f #[.slice p 0 cap, .func (.func g0) #[] #[]] w fun e w' => e = .returned (.tuple #[]) ∧ w' = w)
    (hl : decide (l.length * (k + 1) ≤ limit) = true) : CallsB P f [.row LIM, .fn g0 []] [(LIM, et, [.rowc false d enc l])] (.tup []) [(LIM, et, [.rowc false d enc (sortBy cf l)])] := by
  refine ⟨hf, fun F w1 B args hb hr => ?_⟩
  have hlim : l.length * (k + 1) ≤ 140737488355328 := of_decide_eq_true hl
  have hp := hE.pos
  have hll : l.length ≤ 140737488355328 := Nat.le_trans (Nat.le_mul_of_pos_right _ (by omega)) hlim
  obtain ⟨v, vs, hv, hs, rfl⟩ : ∃ v vs, Rep F w1.w B (.row LIM) v ∧ RepL F w1.w B [.fn g0 []] vs ∧ args = v :: vs := by
    cases hr with
    | cons _ v _ vs h1 h2 => exact ⟨v, vs, h1, h2, rfl⟩
  have hfn : vs = [.func (.func g0) #[] #[]] := by
    cases hs with
    | cons _ u _ us h1 h2 =>
      cases h2
      cases h1 with
      | fn _ _ us h3 => cases h3; rfl
  subst hfn
  obtain ⟨p, n, cap, v, hB, hv, he⟩ := row_arg (.cons _ v _ _ hv .nil)
  cases he
  obtain ⟨p', n', cap', hB', hn0, hpos, hge, xs, hxs, hown, hfz⟩ := hb.row' (M := memL [(LIM, et, [D.rowc false d enc l])]) List.mem_cons_self
  rw [hB] at hB'; cases hB'
  have hx := hE.vals hxs
  subst hx
  rw [hE.len d] at hown
  cases p with
  | none =>
    have h0 : l = [] ∧ n = 0 ∧ cap = 0 := by
      rcases hown.2 with ⟨_, h1, h2⟩ | ⟨_, _, _, h, _⟩
      · exact ⟨List.eq_nil_of_length_eq_zero (by omega), h1, h2⟩
      · cases h
    obtain ⟨rfl, rfl, rfl⟩ := h0
    obtain ⟨q, rfl⟩ := isRow_none hv
    refine (hn q 0 w1.w).mono ?_
    rintro e w' ⟨rfl, rfl⟩
    exact ⟨_, F, B, rfl, .tup [] [] .nil, by simpa [sortBy] using hb⟩
  | some g =>
    obtain ⟨hH, hg, rfl, hnc, hcm, cur, fz, hh, hsz, htk, hfz'⟩ := hE.holds hown
    obtain rfl := isRow_some hv
    have hcc := hc g 0 cap l.toArray w1.w hH hg (by simp; omega)
    rw [show l.toArray.size = l.length by simp] at hcc
    refine hcc.mono ?_
    rintro e w' ⟨rfl, q, os, rfl⟩
    have hlen : (sortBy cf l).length = l.length := by simp [sortBy]
    have hw : sortWorldK encV k w1.w g 0 q (l.toArray.toList.mergeSort fun x y => !(ltOf cf y x)).toArray os = grow (putRow id (Sort.ahead w1.w q) g 0 ((sortBy cf l).flatMap encV).toArray) os := by
      unfold sortWorldK putRowK
      rw [← hE.flat]; rfl
    rw [hw]
    exact ⟨_, F, B, rfl, .tup [] [] .nil, hb.turned hB (grownBy_sortedK _) ⟨_, hE.reps (sortBy cf l), by rw [hE.len d]; exact hE.sorted (sortBy cf l) hh hlen.symm hnc hcm hsz hfz'⟩ hlen⟩
end
end Go.Proofs.YtonjhkefnijlhaaDoor.RX
