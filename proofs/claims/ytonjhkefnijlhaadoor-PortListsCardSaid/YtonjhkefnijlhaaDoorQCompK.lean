/-
  Part of the proof of PortLists: CompK.
-/
import Derived.Shelf.SlSortCmp.KitK
import Derived.Lib.SliceRun
import Derived.Lib.SlicesCompact
set_option linter.all false
namespace Go.Proofs.YtonjhkefnijlhaaDoor.CK
open Go Go.RowKit Go.Shelf Go.Lib Go.Sort
section
variable {α : Type} [Inhabited α] {enc : α → List Value} {k : Nat} {w0 W : World} {blk off : Nat} {dk : Array α}
theorem run_clear_sliceK {P : Program} (w : World) (t e ty : TypeId) (z : Value) (zs : List Value) (ht : P.underlying t = some (.slice e)) (hv : ∀ w, (zeroValue e).run P w = .ok z w) (hz : z.cells = zs.toArray) (h0 : 0 < zs.length) (h1 : ∀ v ∈ zs, v.oneCell' = true) (b o n c : Nat) (hn : 0 < n)
    (hc : ∀ j, j < n * zs.length → (w.cell? ⟨b, o + j, none⟩).isSome = true) (hf : ∀ j, j < n * zs.length → w.frozen? ⟨b, o + j, none⟩ = false) :
    (Builtin.clear_ #[t] ty #[.slice (some ⟨b, o, none⟩) n c]).run P w = .ok (.tuple #[]) (w.setCells b o (List.replicate n zs).flatten) := by
  have hfl : ∀ (n i : Nat) (h : i < n * zs.length), (List.replicate n zs).flatten[i]? = zs[i % zs.length]? := by
    intro n
    induction n with
    | zero => intro i h; simp at h
    | succ n ih =>
      intro i h
      rw [List.replicate_succ, List.flatten_cons]
      by_cases hi : i < zs.length
      · rw [List.getElem?_append_left hi, Nat.mod_eq_of_lt hi]
      · rw [List.getElem?_append_right (by omega), ih (i - zs.length) (by rw [Nat.add_mul] at h; omega)]
        congr 1
        conv => rhs; rw [show i = i - zs.length + zs.length by omega]
        rw [Nat.add_mod_right]
  have hlen : (List.replicate n zs).flatten.length = n * zs.length := by simp
  have hzc : (Builtin.zeroCells z.cells n).toList = (List.replicate n zs).flatten := by
    rw [hz]
    apply List.ext_getElem?
    intro i
    by_cases h : i < n * zs.length
    · rw [hfl n i h]
      have hm : i % zs.length < zs.length := Nat.mod_lt _ h0
      simp [Builtin.zeroCells, h, hm, Nat.mul_comm]
    · rw [List.getElem?_eq_none (by simp [Builtin.zeroCells, Nat.mul_comm] at h ⊢; omega), List.getElem?_eq_none (by rw [hlen]; omega)]
  have hmem : ∀ v ∈ (List.replicate n zs).flatten, v.oneCell' = true := by
    intro v hv'
    obtain ⟨l, hl, hvl⟩ := List.mem_flatten.1 hv'
    rw [List.eq_of_mem_replicate hl] at hvl
    exact h1 v hvl
  have hst := run_storeCells_cells (P := P) b o (List.replicate n zs).flatten 0 w (by rw [hlen]; simpa using hc) (by rw [hlen]; simpa using hf) hmem
  simp only [Nat.add_zero] at hst
  obtain ⟨m, rfl⟩ : ∃ m, n = m + 1 := ⟨n - 1, by omega⟩
  simp only [Builtin.clear_]
  simp [run_underlying ht, hv, hzc, hst]
theorem flatK_set (hk : ∀ x, (enc x).length = k) (d : Array α) (i : Nat) (hi : i < d.size) (x : α) : setMany (flatK enc k d) (i * k) (enc x) = flatK enc k (d.setIfInBounds i x) := by
  refine ext_get! (by simp) fun t ht => ?_
  have ht' : t < d.size * k := by simpa using ht
  have k0 : 0 < k := by
    rcases Nat.eq_zero_or_pos k with h | h
    · subst h; simp at ht'
    · exact h
  rw [get_setMany _ _ _ t (by simpa using ht'), get_flatK _ _ _ t ht', get_flatK _ _ _ t (by simpa using ht'), hk]
  have hd : t / k < d.size := Nat.div_lt_of_lt_mul (by rwa [Nat.mul_comm] at ht')
  by_cases h : i * k ≤ t ∧ t < i * k + k
  · have e := (blk_iff k i t k0).1 h
    rw [if_pos h, e]
    have : (d.setIfInBounds i x)[i]! = x := by simp [hi]
    rw [this]
    congr 1
    rw [← e, Nat.mod_def, Nat.mul_comm]
  · have e : ¬ t / k = i := fun e => h ((blk_iff k i t k0).2 e)
    rw [if_neg h]
    have : (d.setIfInBounds i x)[t / k]! = d[t / k]! := by
      simp [Array.getElem!_eq_getD, Array.getD, Array.getElem_setIfInBounds, hd, Ne.symm e]
    rw [this]
theorem SWK.drewW (h : SWK enc k w0 blk off dk W) (hblk : blk < w0.heap.size) (s : Nat) (vs : List Value) (hs : s + vs.length ≤ dk.size * k) (d' : Array α) (hd : setMany (flatK enc k dk) s vs = flatK enc k d') :
    SWK enc k w0 blk off d' (W.drew.setCells blk (off + s) vs) := by
  obtain ⟨m, os, rfl⟩ := h
  refine ⟨m + 1, os, ?_⟩
  unfold sortWorldK
  rw [drew_grow, setCells_grow os blk _ _ _ (by show blk < (putRowK enc k _ blk off dk).heap.size; rw [size_putRowK]; exact hblk)]
  congr 1
  show ((putRowK enc k (Sort.ahead w0 m) blk off dk).drewN 1).setCells blk (off + s) vs = _
  unfold putRowK
  rw [Go.Proofs.putRow_drewN, setCells_putRow _ _ _ _ _ _ (by rw [size_flatK]; exact hs), hd]
theorem SWK.flatW (h : SWK enc k w0 blk off dk W) (hblk : blk < w0.heap.size) (s : Nat) (vs : List Value) (hs : s + vs.length ≤ dk.size * k) (d' : Array α) (hd : setMany (flatK enc k dk) s vs = flatK enc k d') :
    SWK enc k w0 blk off d' (W.setCells blk (off + s) vs) := by
  obtain ⟨m, os, rfl⟩ := h
  refine ⟨m, os, ?_⟩
  unfold sortWorldK
  rw [setCells_grow os blk _ _ _ (by rw [size_putRowK]; exact hblk)]
  congr 1
  unfold putRowK
  rw [setCells_putRow _ _ _ _ _ _ (by rw [size_flatK]; exact hs), hd]
theorem SWK.set (h : SWK enc k w0 blk off dk W) (hk : ∀ x, (enc x).length = k) (hblk : blk < w0.heap.size) (i : Nat) (hi : i < dk.size) (x : α) : SWK enc k w0 blk off (dk.setIfInBounds i x) (W.drew.setCells blk (off + i * k) (enc x)) :=
  SWK.drewW h hblk (i * k) (enc x) (by rw [hk]; exact rowK_bnd dk k i hi) _ (flatK_set hk dk i hi x)
theorem fillK (hk : ∀ x, (enc x).length = k) (z : α) (i : Nat) : ∀ (n : Nat) (d : Array α), i + n ≤ d.size → setMany (flatK enc k d) (i * k) (List.replicate n (enc z)).flatten = flatK enc k ((List.range n).foldl (fun d j => d.setIfInBounds (i + j) z) d) := by
  have app : ∀ (vs us : List Value) (s : Nat) (F : Array Value), setMany F s (vs ++ us) = setMany (setMany F s vs) (s + vs.length) us := by
    intro vs
    induction vs with
    | nil => intro us s F; simp [setMany]
    | cons v vs ih => intro us s F; rw [List.cons_append, setMany, setMany, ih, List.length_cons, show s + 1 + vs.length = s + (vs.length + 1) by omega]
  intro n
  induction n with
  | zero => intro d h; simp [setMany]
  | succ n ih =>
    intro d h
    have hsz : ∀ (l : List Nat) (d : Array α), (l.foldl (fun d j => d.setIfInBounds (i + j) z) d).size = d.size := by
      intro l
      induction l with
      | nil => intro d; rfl
      | cons j l ih => intro d; rw [List.foldl_cons, ih]; simp
    rw [List.replicate_succ', List.flatten_append, app, ih d (by omega), List.range_succ, List.foldl_append]
    have hl : (List.replicate n (enc z)).flatten.length = n * k := by simp [hk]
    rw [hl, ← Nat.add_mul]
    simp only [List.flatten_cons, List.flatten_nil, List.append_nil, List.foldl_cons, List.foldl_nil]
    exact flatK_set hk _ (i + n) (by rw [hsz]; omega) z
def fillA (z : α) (i n : Nat) (d : Array α) : Array α := (List.range n).foldl (fun d j => d.setIfInBounds (i + j) z) d
theorem size_fillA (z : α) (i n : Nat) (d : Array α) : (fillA z i n d).size = d.size := by
  unfold fillA
  generalize List.range n = l
  induction l generalizing d with
  | nil => rfl
  | cons j l ih => rw [List.foldl_cons, ih]; simp
theorem get_fillA (z : α) (i n : Nat) (d : Array α) (t : Nat) (ht : t < i) : (fillA z i n d)[t]! = d[t]! := by
  unfold fillA
  generalize List.range n = l
  induction l generalizing d with
  | nil => rfl
  | cons j l ih =>
    rw [List.foldl_cons, ih]
    have : ¬ i + j = t := by omega
    by_cases hd : t < d.size
    · rw [getElem!_pos (d.setIfInBounds (i + j) z) t (by simpa using hd), getElem!_pos d t hd, Array.getElem_setIfInBounds (by simpa using hd), if_neg this]
    · rw [getElem!_neg (d.setIfInBounds (i + j) z) t (by simpa using hd), getElem!_neg d t hd]
theorem SWK.fill (h : SWK enc k w0 blk off dk W) (hk : ∀ x, (enc x).length = k) (hblk : blk < w0.heap.size) (i n : Nat) (hi : i + n = dk.size) (z : α) : SWK enc k w0 blk off (fillA z i n dk) (W.setCells blk (off + i * k) (List.replicate n (enc z)).flatten) :=
  SWK.flatW h hblk (i * k) _ (by
    have : (List.replicate n (enc z)).flatten.length = n * k := by simp [hk]
    rw [this, ← Nat.add_mul, hi]; exact Nat.le_refl _) _ (fillK hk z i n dk (by omega))
end
end Go.Proofs.YtonjhkefnijlhaaDoor.CK
