/-
  The operations on rows. Over any program.
-/
import Derived.Test.YteliiabopphgmaaRxEv
import Derived.Laws.BytesArg
namespace Go.Proofs.Yteliiabopphgmaa.RX
open Go.RowKit

section
variable {P : Program} {F0 : Fz} {w0 : Pt P} {B : Env} {F : Fz} {M : Mem} {L : Boxes} {w : World} {a : Act} {get : Operand → Option D} {Γ : Nat → Option TI}

theorem elem_spec {t e es : Nat} {ti : TI} (h : tiOf P t = some ti) (hd : P.underlying t = some (.slice e)) (hz : ti.ez.length = es) (hpos : 0 < es) :
    ∃ i z, P.info? e = some i ∧ i.zero = some z ∧ z.cells.toList = ti.ez ∧ ti.ez.all flatV = true ∧ i.bytes = ti.eb ∧ ti.elt = e ∧ i.size = es := by
  obtain ⟨h1, h2, h3, _⟩ := tiOf_elem h hd
  simp only [elemTI] at h1 h2 h3
  cases hi : P.info? e with
  | none => rw [hi] at h3; simp only at h3; rw [h3] at hz; simp at hz; omega
  | some i =>
    rw [hi] at h2 h3
    simp only at h2 h3
    cases hzz : i.zero with
    | none => rw [hzz] at h3; simp only at h3; rw [h3] at hz; simp at hz; omega
    | some z =>
      rw [hzz] at h3
      simp only at h3
      split at h3
      · rename_i hc
        simp only [Bool.and_eq_true, beq_iff_eq] at hc
        refine ⟨i, z, rfl, hzz, h3.symm, by rw [h3]; exact hc.1, h2.symm, h1, ?_⟩
        rw [← hz, h3]; exact hc.2.symm
      · rw [h3] at hz; simp at hz; omega

theorem ofValues_rep (n : Nat) (zs : List Value) (h : zs.all flatV = true) : RepL F w B ((List.replicate n (zs.map ofValue)).flatten) ((List.replicate n zs).flatten) := by
  induction n with
  | zero => exact .nil
  | succ n ih =>
    simp only [List.replicate_succ, List.flatten_cons]
    exact (ofValues zs h).append ih

theorem seal_parts (hb : Base F0 w0 B F M w) (hL : RowsIn M L) : ∀ (ps : List (Nat × D)) (vs : List Value), RepL F w B (ps.map (·.2)) vs → RepL F w B ((ps.map fun x => (x.1, x.2.shut L)).map (·.2)) vs
  | [], _, h => h
  | p :: ps, _, h => by
    simp only [List.map_cons] at h ⊢
    cases h with
    | cons _ v _ vs h hs => exact .cons _ _ _ _ (h.sealed hb hL) (seal_parts hb hL ps vs hs)

theorem ev_buildSlice (hΓ : ΓOK P Γ) (hb : Base F0 w0 B F M w) (hL : RowsIn M L) {t len es : Nat} {ea : Bool} {ti : TI} {parts : Array (Nat × Operand)} {ps : List (Nat × D)} {cs : List D} (ht : Γ t = some ti) (hk : ti.kind = .slice es ea)
    (hg : GetOK F w B a get) (hp : getParts get parts.toList = some ps) (hf : fillParts (fun i => some (i * es, es)) ((List.replicate len (ti.ez.map ofValue)).flatten) (ps.map fun x => (x.1, x.2.shut L)) = some cs)
    (hno : D.noOwns cs = true) (hlen : len * es ≤ 16777216) (hpos : 0 < es) (hez : ti.ez.length = es) {o : Oper} (ho : o.op = .buildSlice t len parts) (m : Bool) : OutOK P F w B M a o (.row ti.elt m none (MkOb es cs len)) := by
  obtain ⟨_, de, _, _, hde, _, _, _, _, _, _, hkd⟩ := tiOf_spec (hΓ _ _ ht).1
  obtain ⟨e, rfl, hse⟩ := kind_slice (by rw [hkd]; exact hk)
  obtain ⟨i, z, hi, hz, hzc, hzf, hbs, hel, hsz⟩ := elem_spec (hΓ _ _ ht).1 hde hez hpos
  have hel : ti.elt = e := hel
  intro α d enc l hspec hgood
  obtain ⟨_, d', enc', l', h1, h2, h3, h4⟩ := hspec
  cases h4
  obtain ⟨hg1, hg2⟩ := hgood
  obtain ⟨hq, hqr⟩ := hg.parts _ _ hp
  have hzs : z.cells.size = es := by
    have : z.cells.toList.length = es := by rw [hzc]; exact hez
    simpa using this
  obtain ⟨us, hu, hur⟩ := fill_sound (F := F) (w := w) (B := B) (fun i => some (i * es, es)) (ps.map fun x => (x.1, x.2.shut L)) (parts.toList.map fun x => (x.1, a.eval x.2)) _ ((List.replicate len ti.ez).flatten) cs
    (ofValues_rep len ti.ez hzf) hf (by rw [List.map_map, List.map_map]; simpa [Function.comp_def] using hq.symm) (by
      have e : (parts.toList.map fun x => (x.1, a.eval x.2)).map (·.2) = parts.toList.map fun x => a.eval x.2 := by simp [Function.comp_def]
      rw [e]
      exact seal_parts hb hL ps _ hqr)
  have hcl : us.length = len * es := by
    rw [RepL.length hur, h1.length, flatMap_length (fun x => (hg2 x).1), h2, h3]
  have hcell : (madeCells z.cells (len * es)).toList = (List.replicate len ti.ez).flatten := by rw [zeros_list (by simpa using hzs) hpos, hzc]
  refine ⟨some w.heap.size, len, len, w.alloc (.cells us.toArray ti.elt), us, none, 0, _, ?_, .inl rfl, h2.symm, ?_, ⟨by rw [h3]; exact hcl, .inr ⟨_, us.toArray, (0, 0), rfl, heap_alloc_new w _, by simp, Nat.le_refl _, ?_, by rw [h3]; simpa using hcl, ?_⟩⟩,
    .inr ⟨rfl, World.grownBy_alloc w _ none⟩, Nat.zero_le _, rfl⟩
  · unfold execOp
    have hm : (parts.map fun x => (x.1, a.eval x.2)).toList = parts.toList.map fun x => (x.1, a.eval x.2) := by simp
    have h24 : ¬ (2 ^ 24 < len * es) := by omega
    simp only [ho, Instr.buildSlice, Sem.run_bind, run_underlying hde, Result.andThen_ok, run_sizeOf' hi, hsz, Nat.not_lt.1 h24, gt_iff_lt, h24, if_false, Sem.run_pure]
    have hz0 : ((Array.range (len * es)).map fun i => (if len * es = 0 then #[] else z.cells)[i % (if len * es = 0 then #[] else z.cells).size]!) = ((List.replicate len ti.ez).flatten).toArray := by
      apply Array.ext'
      rw [← hcell]
      by_cases h0 : len * es = 0
      · simp [h0, madeCells]
      · simp [h0, madeCells]
    by_cases h0 : len * es = 0
    · simp only [h0, if_true, Sem.run_bind, Sem.run_pure, Result.andThen_ok] at hz0 ⊢
      rw [hz0, hm, hu]
      simp only [Sem.run_bind, Sem.run_pure, Result.andThen_ok, newRow, run_newObj, hel]
      rfl
    · simp only [h0, if_false, zeroValue, Sem.run_bind, run_typeInfo w hi, hz, Sem.run_pure, Result.andThen_ok] at hz0 ⊢
      rw [hz0, hm, hu]
      simp only [Sem.run_bind, Sem.run_pure, Result.andThen_ok, newRow, run_newObj, hel]
      rfl
  · exact h1.rep (hur.bare hno)
  · have : len ≤ len * es := Nat.le_mul_of_pos_right _ hpos
    simp only [maxLen]; omega
  · rw [h3, List.take_of_length_le (by simp; omega)]

theorem flatten_take (n c : Nat) (zs : List Value) (h : n ≤ c) : ((List.replicate c zs).flatten).take (n * zs.length) = (List.replicate n zs).flatten := by
  induction n generalizing c with
  | zero => simp
  | succ n ih =>
    cases c with
    | zero => omega
    | succ c =>
      simp only [List.replicate_succ, List.flatten_cons]
      rw [Nat.add_mul, Nat.one_mul, Nat.add_comm, List.take_length_add_append, ih c (by omega)]

theorem ev_make (hΓ : ΓOK P Γ) {t es : Nat} {ea : Bool} {ti : TI} (ht : Γ t = some ti) (hk : ti.kind = .slice es ea) {x y : Operand} {k k' : IntKind} {n c : Int} (hx : Rep F w B (.val (.int k n)) (a.eval x)) (hy : Rep F w B (.val (.int k' c)) (a.eval y))
    (hpos : 0 < es) (hez : ti.ez.length = es) (hc1 : 0 ≤ n ∧ n ≤ c) (hc2 : c * (ti.eb + 1 : Nat) ≤ (limit : Int)) {o : Oper} (ho : o.op = .makeSlice t x y) (m : Bool) : OutOK P F w B M a o (.row ti.elt m none (MadeOb (ti.ez.map ofValue) n.toNat)) := by
  obtain ⟨_, de, _, _, hde, _, _, _, _, _, _, hkd⟩ := tiOf_spec (hΓ _ _ ht).1
  obtain ⟨e, rfl, hse⟩ := kind_slice (by rw [hkd]; exact hk)
  obtain ⟨i, z, hi, hz, hzc, hzf, hbs, hel, hsz⟩ := elem_spec (hΓ _ _ ht).1 hde hez hpos
  have hel : ti.elt = e := hel
  intro α d enc l hspec hgood
  obtain ⟨α', d', enc', h1, h4⟩ := hspec
  cases h4
  generalize hv : a.eval x = vx at hx
  generalize hu : a.eval y = vy at hy
  cases hx; cases hy
  have hzl : (enc d).length = es := by rw [← h1.length]; simpa using hez
  have hc0 : 0 ≤ c := by omega
  have hbs : i.bytes = ti.eb := hbs
  generalize hK : (c * (ti.eb + 1 : Nat) : Int) = K at hc2
  have hb1 : (i.bytes : Int) * c ≤ K := by
    rw [← hK, hbs, Int.mul_comm]
    exact Int.mul_le_mul_of_nonneg_left (by omega) hc0
  have hb2 : c ≤ K := by
    have := Int.mul_le_mul_of_nonneg_left (show (1 : Int) ≤ (ti.eb + 1 : Nat) by omega) hc0
    rw [hK] at this
    omega
  have hc2 : K ≤ 140737488355328 := hc2
  have hrun := run_make (P := P) w t e i z hde hi hz k k' n c hc1.1 hc1.2 (by omega) (by omega)
  have hcell : (madeCells z.cells (c.toNat * i.size)).toList = (List.replicate c.toNat ti.ez).flatten := by
    rw [hsz, zeros_list (by rw [hzc]; exact hez) hpos, hzc]
  have hfl : ∀ q : Nat, ((List.replicate q ti.ez).flatten).length = q * es := by intro q; simp [hez]
  refine ⟨some w.heap.size, n.toNat, c.toNat, w.alloc (.cells (madeCells z.cells (c.toNat * i.size)) ti.elt), (List.replicate n.toNat ti.ez).flatten, none, 0, _, ?_, .inl rfl, by simp, ?_, ⟨by rw [hzl]; exact hfl _, .inr ⟨_, madeCells z.cells (c.toNat * i.size), (0, 0), rfl, heap_alloc_new w _, by simp, by omega, ?_, ?_, ?_⟩⟩, .inr ⟨rfl, World.grownBy_alloc w _ none⟩, Nat.zero_le _, rfl⟩
  · unfold execOp
    simp only [ho, hv, hu, Sem.run_bind, hrun, Result.andThen_ok, Sem.run_pure, hel]
    rfl
  · have : ((List.replicate n.toNat d).flatMap enc) = (List.replicate n.toNat (enc d)).flatten := by
      rw [List.flatMap_def, List.map_replicate]
    rw [this]
    have hrep : ∀ q : Nat, Weaks ((List.replicate q (ti.ez.map ofValue)).flatten) ((List.replicate q (enc d)).flatten) := by
      intro q
      induction q with
      | zero => exact .nil
      | succ q ih => simp only [List.replicate_succ, List.flatten_cons]; exact h1.append ih
    exact (hrep _).rep (ofValues_rep _ _ hzf)
  · simp only [maxLen]; omega
  · rw [hzl, size_madeCells, hsz]
  · rw [hcell, hzl, ← hez]
    exact flatten_take _ _ _ (by omega)

theorem recs_flat {α : Type} {d : α} {enc : α → List D} {size : Nat} : ∀ (l : List α) (vs : Nat → List Value), (∀ i, i < l.length → (vs i).length = size) → (∀ i, i < l.length → RepL F w NB (enc (l[i]?.getD d)) (vs i)) →
    ∃ news, RepL F w NB (l.flatMap enc) news ∧ news.length = l.length * size ∧ ∀ i j, i < l.length → j < size → news[i * size + j]? = (vs i)[j]?
  | [], vs, _, _ => ⟨[], .nil, by simp, fun i j hi => by simp at hi⟩
  | y :: l, vs, h1, h2 => by
    obtain ⟨news, h3, h4, h5⟩ := recs_flat (d := d) l (fun i => vs (i + 1)) (fun i hi => h1 (i + 1) (by simp; omega)) (fun i hi => by simpa using h2 (i + 1) (by simp; omega))
    have hl0 := h1 0 (by simp)
    have hr0 : RepL F w NB (enc y) (vs 0) := by simpa using h2 0 (by simp)
    refine ⟨vs 0 ++ news, by simpa using hr0.append h3, by simp [hl0, h4, Nat.add_mul]; omega, fun i j hi hj => ?_⟩
    cases i with
    | zero => rw [Nat.zero_mul, Nat.zero_add, List.getElem?_append_left (by omega)]
    | succ i =>
      rw [List.getElem?_append_right (by rw [hl0, Nat.add_mul]; omega), hl0, ← h5 i j (by simpa using hi) hj]
      congr 1
      rw [Nat.add_mul]; omega

theorem div_mod_eq (j size : Nat) : j / size * size + j % size = j := by rw [Nat.mul_comm]; exact Nat.div_add_mod j size

/-- What a slice's content is, and how it is read. -/
theorem content_ok (hb : Base F0 w0 B F M w) (hL : RowsIn M L) {es : Nat} (hpos : 0 < es) {x : D} {v : Value} {cs : List D} {n : Nat} (hc : contentOf es L x = some (cs, n)) (hx : Rep F w B x v) :
    ∃ news, RepL F w NB cs news ∧ news.length = n * es ∧ (∀ w', (Builtin.lenOf v).run P w' = .ok n w') ∧ (∀ w', (∀ p, w'.cell? p = w.cell? p) → (Builtin.firstCells es n v).run P w' = .ok news.toArray w') ∧
      ((∃ q cap, v = .slice q n cap ∧ ∀ b, q = some b → ∀ j u, news[j]? = some u → w.cell? (b.add j) = some u) ∨ ∃ l, x = .str l) := by
  cases x <;> simp only [contentOf] at hc <;> first | (cases hc; done) | skip
  · -- a string
    rename_i l
    split at hc
    · rename_i h1
      cases hc
      cases hx
      have hs : (⟨l.toArray⟩ : ByteArray).size = l.length := by show l.toArray.size = _; simp
      refine ⟨l.map fun b => .int .u8 b.toNat, ?_, by simp [h1], fun w' => by simp [Builtin.lenOf, hs], fun w' _ => ?_, .inr ⟨l, rfl⟩⟩
      · clear hs
        induction l with
        | nil => exact .nil
        | cons b l ih => exact .cons _ _ _ _ (.val _ rfl) ih
      · simp only [Builtin.firstCells, Sem.run_pure]
        congr 1
        apply Array.ext'
        rw [← hs, ByteArray.extract_zero_size]
        simp
    · cases hc
  · -- a frozen one
    rename_i α d enc l
    split at hc
    · rename_i hz
      cases hc
      cases hx with
      | recsNil _ _ p =>
        refine ⟨[], .nil, by simp, fun w' => rfl, fun w' _ => ?_, .inl ⟨p, 0, rfl, fun _ _ j u hu => by simp at hu⟩⟩
        cases p <;> simp [Builtin.firstCells, loadCells, loadCellsFrom]
      | recs _ _ _ g off cap size vs hsz h1 h2 h3 hcap =>
        obtain ⟨news, h4, h5, h6⟩ := recs_flat l vs h1 h2
        have hse : size = es := by rw [hsz, hz]
        subst hse
        have hcell : ∀ j u, news[j]? = some u → w.cell? ((⟨g, off, none⟩ : Addr).add j) = some u := by
          intro j u hu
          have hj : j < l.length * size := by rw [← h5]; exact (List.getElem?_eq_some_iff.1 hu).1
          have hd : j / size < l.length := (Nat.div_lt_iff_lt_mul hpos).2 hj
          have hm : j % size < size := Nat.mod_lt _ hpos
          have h7 := h6 _ _ hd hm
          rw [div_mod_eq] at h7
          rw [add_eq, ← hu, h7, ← (h3 _ _ hd hm).2]
          congr 2
          rw [Nat.add_assoc, div_mod_eq]
        refine ⟨news, h4, h5, fun w' => rfl, fun w' hw => ?_, .inl ⟨_, cap, rfl, fun b hb => by cases hb; exact hcell⟩⟩
        exact run_firstCells_some w' size l.length ⟨g, off, none⟩ l.length cap news h5 fun j u hu => by rw [hw]; exact hcell j u hu
    · cases hc
  · -- a row
    rename_i k
    split at hc
    · rename_i t m α d enc l hl
      split at hc
      · rename_i hz
        cases hc
        obtain ⟨p, n, cap, hB, hrow⟩ := hb.row' (hL _ _ _ _ _ _ _ hl)
        obtain ⟨rfl, h2, h3, xs, h4, h5, h6⟩ := hrow
        cases hx with
        | row _ p' n' cap' hB' =>
          rw [hB] at hB'; cases hB'
          refine ⟨xs, h4, by rw [h5.1, hz], fun w' => rfl, fun w' hw => ?_, .inl ⟨_, cap, rfl, fun b hb j u hu => ?_⟩⟩
          · cases p with
            | none =>
              have hx0 : xs = [] := by
                rcases h5.2 with ⟨_, h7, _⟩ | ⟨g, cur, fz, hp, _⟩
                · exact List.eq_nil_of_length_eq_zero (by rw [h5.1, h7]; simp)
                · cases hp
              subst hx0
              simp [rowVal, Builtin.firstCells]
            | some b =>
              exact run_firstCells_some w' es l.length ⟨b, 0, none⟩ l.length cap xs (by rw [h5.1, hz]) fun j u hu => by rw [hw, add_eq, Nat.zero_add]; exact h5.cells hu
          · cases p with
            | none => cases hb
            | some b' =>
              simp only [Option.map_some, Option.some.injEq] at hb
              subst hb
              rw [add_eq, Nat.zero_add]; exact h5.cells hu
        | rowNil _ q hB' =>
          rw [hB] at hB'
          simp only [Option.some.injEq, Ref.row.injEq] at hB'
          obtain ⟨rfl, hl0, rfl⟩ := hB'
          have hl : l = [] := List.eq_nil_of_length_eq_zero hl0
          subst hl
          have hx0 : xs = [] := List.eq_nil_of_length_eq_zero (by rw [h5.1]; simp)
          subst hx0
          refine ⟨[], h4, by simp, fun w' => rfl, fun w' hw => ?_, .inl ⟨q, 0, rfl, fun b hb j u hu => by simp at hu⟩⟩
          cases q <;> simp [Builtin.firstCells, loadCells, loadCellsFrom]
      · cases hc
    · cases hc

theorem elem_kind {t e : Nat} {ti : TI} {k : IntKind} (h : tiOf P t = some ti) (hd : P.underlying t = some (.slice e)) (hk : ti.ek = some k) : P.underlying e = some (.int k) := by
  obtain ⟨_, _, _, h4⟩ := tiOf_elem h hd
  simp only [elemTI] at h4
  rw [hk] at h4
  split at h4
  · rename_i k' hu; cases h4; exact hu
  · cases h4
theorem one_flat {cs : List D} {vs : List Value} (h : RepL F w B cs vs) (hf : cs.all D.flat = true) : ∀ u ∈ vs, u.oneCell' = true := RepL.all_flat h hf
theorem flatMap_flat {α : Type} {enc : α → List D} (h : ∀ x, (enc x).all D.flat = true) : ∀ l : List α, (l.flatMap enc).all D.flat = true
  | [] => rfl
  | x :: l => by
    simp only [List.flatMap_cons, List.all_append, Bool.and_eq_true]
    exact ⟨h x, flatMap_flat h l⟩

theorem OwnRow.kept {w w' : World} {e size : Nat} {p p0 : Option Nat} {n n0 cap cap0 : Nat} {xs news : List Value} (h : OwnRow w e size p0 n0 cap0 xs) (h' : OwnRow w' e size p n cap (xs ++ news)) (hp : p = p0) : ∀ b, p0 = some b → ∀ j, j < n0 * size → w'.cell? ⟨b, j, none⟩ = w.cell? ⟨b, j, none⟩ := by
  intro b hb j hj
  subst hp; subst hb
  have hj' : j < xs.length := by rw [h.1]; exact hj
  rw [h.cells (List.getElem?_eq_getElem hj'), h'.cells (by rw [List.getElem?_append_left hj']; exact List.getElem?_eq_getElem hj')]

theorem ev_append (hΓ : ΓOK P Γ) (hb : Base F0 w0 B F M w) (hL : RowsIn M L) {c : Call} {t t' es N : Nat} {ea : Bool} {ti ti' : TI} {s x : D} {old : Option Nat} {m : Bool} {spec : D → Prop}
    (hcal : c.callee = .builtin .append) (hat : c.argTypes.toList = [t, t']) (ht : Γ t = some ti) (ht' : Γ t' = some ti') (hk : ti.kind = .slice es ea) (hk' : (∃ es' ea', ti'.kind = .slice es' ea') ∨ ti'.kind = .str)
    (hg : GetOK F w B a get) (ha : getAll get c.args.toList = some [s, x]) (hr : appSpec es ti.elt L s x = some (old, m, N, spec)) (hc : N * (ti.eb + 1) ≤ limit) (hez : ti.ez.length = es) (hpos : 0 < es) {o : Oper} (ho : o.op = .call c) :
    OutOK P F w B M a o (.row ti.elt m old spec) := by
  obtain ⟨_, de, _, _, hde, _, _, _, _, _, _, hkd⟩ := tiOf_spec (hΓ _ _ ht).1
  obtain ⟨e, rfl, hse⟩ := kind_slice (by rw [hkd]; exact hk)
  obtain ⟨i, z, hi, hz, hzc, hzf, hbs, hel, hsz⟩ := elem_spec (hΓ _ _ ht).1 hde hez hpos
  have hel : ti.elt = e := hel
  have hbs : i.bytes = ti.eb := hbs
  have ht2 : (∃ e2, P.underlying t' = some (.slice e2)) ∨ P.underlying t' = some .string := by
    obtain ⟨_, de', _, _, hde', _, _, _, _, _, _, hkd'⟩ := tiOf_spec (hΓ _ _ ht').1
    rcases hk' with ⟨es', ea', hk'⟩ | hk'
    · obtain ⟨e2, rfl, _⟩ := kind_slice (by rw [hkd']; exact hk')
      exact .inl ⟨e2, hde'⟩
    · obtain rfl := kind_str (by rw [hkd']; exact hk')
      exact .inr hde'
  have hzs : z.cells.size = i.size := by
    have : z.cells.toList.length = es := by rw [hzc]; exact hez
    rw [hsz]; simpa using this
  have h := hg.all _ _ ha
  have hm : c.args.map a.eval = (c.args.toList.map a.eval).toArray := by apply Array.ext'; simp
  generalize hvs : c.args.toList.map a.eval = vs at h hm
  cases h with
  | cons _ vs1 _ vsr hs1 hrest =>
    cases hrest with
    | cons _ vx _ vsr' hx hnil =>
      cases hnil
      have hat' : c.argTypes = #[t, t'] := by apply Array.ext'; simpa using hat
      have hexec : ∀ v w', (Builtin.append_ #[t, t'] o.type #[vs1, vx]).run P w = .ok v w' → (execOp a.eval o).run P w = .ok (.value v) w' := by
        intro v w' h1
        unfold execOp
        simp only [ho, resolve, hcal, hm, hat', Sem.run_bind, Sem.run_pure, Result.andThen_ok, invoke, builtin]
        rw [h1]
        rfl
      intro α d enc l hspec hgood
      unfold appSpec at hr
      split at hr
      · -- onto a row
        rename_i k cs n hcont
        split at hr
        · rename_i tt mm α' d' enc' l' hsame hl
          split at hr
          · rename_i hzz
            obtain ⟨hzz, htt⟩ := hzz
            cases hr
            obtain ⟨ys, h1, h2, h3⟩ := hspec
            cases h3
            obtain ⟨p, n0, cap, hB, hrow⟩ := hb.row' (hL _ _ _ _ _ _ _ hl)
            obtain ⟨hn0, hp0, hge, xs, hrx, hown, hfz⟩ := hrow
            have hs1v : IsRow vs1 p n0 cap := by
              cases hs1 with
              | row _ p' n' cap' hB' => rw [hB] at hB'; cases hB'; exact .inl rfl
              | rowNil _ q hB' =>
                rw [hB] at hB'
                simp only [Option.some.injEq, Ref.row.injEq] at hB'
                exact .inr ⟨hB'.1, hB'.2.1, hB'.2.2, q, rfl⟩
            · obtain ⟨news, h4, h5, h6, h7, _⟩ := content_ok hb hL hpos hcont hx
              have hflat : cs.all D.flat = true := h1.flatr (flatMap_flat (fun x => (hge x).2) ys)
              rw [htt, hel, hzz] at hown
              obtain ⟨p', cap', w', v', hrun, hv', hown', hstep⟩ := run_append2 (P := P) (t := t) (t2 := t') (ty := o.type) hs1v hde hi hz hzs (by omega) ht2 (by rw [hsz]; exact hown) h6 (by rw [hsz]; exact h7 w fun _ => rfl) (by rw [hsz]; exact h7 w.drew fun _ => rfl)
                (by rw [hsz]; exact h5) (one_flat h4 hflat) (by rw [hbs, hn0]; exact hc)
              rw [hsz] at hown'
              refine ⟨p', n0 + n, cap', w', xs ++ news, p, n0 * es, v', hexec _ _ hrun, hv', by rw [List.length_append, hn0, h2], ?_, ?_, ?_, ?_, n0, cap, hB, fun b hbp j hj => ?_⟩
              · rw [List.flatMap_append]; exact hrx.append (h1.rep h4)
              · rw [hel, hzz]; exact hown'
              · rcases hstep with ⟨hp, hgr⟩ | ⟨hp, hgr⟩
                · exact .inl ⟨hp, hgr, hown.kept hown' hp⟩
                · exact .inr ⟨hp, hgr⟩
              · rw [hzz]; exact Nat.mul_le_mul_right _ (Nat.le_add_right _ _)
              · have := (hfz b hbp j).1 hj
                rw [hzz] at this; exact this.2
          · cases hr
        · cases hr
      · -- onto nothing
        rename_i cs n hcont
        cases hr
        obtain ⟨_, d', enc', ys, h1, h2, hzz, h3⟩ := hspec
        cases h3
        cases hs1
        obtain ⟨news, h4, h5, h6, h7, _⟩ := content_ok hb hL hpos hcont hx
        have hflat : cs.all D.flat = true := h1.flatr (flatMap_flat (fun x => (hgood.2 x).2) l)
        have hown : OwnRow w e es none 0 0 [] := ⟨by simp, .inl ⟨rfl, rfl, rfl⟩⟩
        obtain ⟨p', cap', w', v', hrun, hv', hown', hstep⟩ := run_append2 (P := P) (t := t) (t2 := t') (ty := o.type) (v0 := .slice none 0 0) (.inl rfl) hde hi hz hzs (by omega) ht2 (by rw [hsz]; exact hown) h6 (by rw [hsz]; exact h7 w fun _ => rfl) (by rw [hsz]; exact h7 w.drew fun _ => rfl)
          (by rw [hsz]; exact h5) (one_flat h4 hflat) (by rw [hbs, Nat.zero_add]; exact hc)
        rw [hsz] at hown'
        refine ⟨p', 0 + N, cap', w', [] ++ news, none, 0, v', hexec _ _ hrun, hv', by rw [Nat.zero_add, h2], ?_, ?_, ?_, Nat.zero_le _, rfl⟩
        · exact h1.rep h4
        · rw [hel, hzz]; exact hown'
        · rcases hstep with ⟨hp, hgr⟩ | ⟨hp, hgr⟩
          · exact .inl ⟨hp, hgr, fun b hb => by cases hb⟩
          · exact .inr ⟨hp, hgr⟩
      · cases hr

/-- The bytes of a slice as a string. -/
theorem ev_strOf (hΓ : ΓOK P Γ) (hb : Base F0 w0 B F M w) (hL : RowsIn M L) {s t es : Nat} {ea : Bool} {si ti : TI} (hs : Γ s = some si) (ht : Γ t = some ti) {x : Operand} {d : D} (hx : Rep F w B d (a.eval x)) (hks : si.kind = .slice es ea) (hkt : ti.kind = .str)
    (hek : si.ek = some .u8) {cs : List D} {n : Nat} (hc : contentOf 1 L d = some (cs, n)) {o : Oper} (ho : o.op = .convert s t x) : OutOK P F w B M a o (.known (StrOb cs)) := by
  obtain ⟨_, de, _, _, hde, _, _, _, _, _, _, hkd⟩ := tiOf_spec (hΓ _ _ hs).1
  obtain ⟨_, de', _, _, hde', _, _, _, _, _, _, hkd'⟩ := tiOf_spec (hΓ _ _ ht).1
  obtain ⟨e, rfl, hse⟩ := kind_slice (by rw [hkd]; exact hks)
  obtain rfl := kind_str (by rw [hkd']; exact hkt)
  have hu8 := elem_kind (hΓ _ _ hs).1 hde hek
  rintro r ⟨l, h1, rfl⟩
  obtain ⟨news, h4, h5, h6, h7, h8⟩ := content_ok (P := P) hb hL (by omega) hc hx
  have hnews : news = l.map fun b => Value.int .u8 b.toNat := by
    rw [h1] at h4
    clear h1 h5 h6 h7 h8 hc
    induction l generalizing news with
    | nil => cases h4; rfl
    | cons b l ih =>
      simp only [List.map_cons] at h4 ⊢
      cases h4 with
      | cons _ v _ vs h hs' => cases h; rw [ih _ hs']
  subst hnews
  refine ⟨.string ⟨l.toArray⟩, ?_, .str l⟩
  unfold execOp
  generalize hv : a.eval x = v at hx h6 h7 h8
  simp only [ho, hv]
  have hconv : (convert s t v).run P w = .ok (.string ⟨l.toArray⟩) w := by
    rcases h8 with ⟨q, cap, rfl, h9⟩ | ⟨l', rfl⟩
    · rw [run_convert_bytes_string w s t e q n cap hde hu8 hde']
      have h10 := h7 w fun _ => rfl
      cases q with
      | none =>
        have hl0 : l = [] := by
          have : (l.map fun b => Value.int .u8 b.toNat).toArray = #[] := by simpa [Builtin.firstCells] using h10.symm
          simpa using this
        subst hl0
        rfl
      | some q =>
        simp only [Builtin.firstCells, Nat.mul_one] at h10
        have hmm : (l.map fun b => Value.int .u8 b.toNat) = (l.map fun b => (b.toNat : Int)).map (Value.int .u8) := by simp
        rw [hmm] at h10
        rw [run_bytesToString w q n cap _ h10, foldl_push_bytes]
        have hid : (fun n : Int => UInt8.ofNat n.toNat) ∘ (fun b : UInt8 => (b.toNat : Int)) = id := by funext b; simp
        congr 2
        simp [hid]
    · cases hx
      simp only [contentOf, if_true, Option.some.injEq, Prod.mk.injEq] at hc
      have hll : l' = l := by
        have h11 := hc.1.trans h1
        refine (List.map_inj_right (fun x y hxy => ?_)).1 h11
        simp only [D.val.injEq, Value.int.injEq, true_and] at hxy
        exact UInt8.toNat_inj.1 (by omega)
      subst hll
      unfold convert
      simp only [Sem.run_bind, run_underlying hde, run_underlying hde', Result.andThen_ok]
      rfl
  simp only [Sem.run_bind, hconv, Result.andThen_ok, Sem.run_pure]

theorem ev_strNil (hΓ : ΓOK P Γ) {s t es : Nat} {ea : Bool} {si ti : TI} (hs : Γ s = some si) (ht : Γ t = some ti) {x : Operand} (hx : Rep F w B (.val (.slice none 0 0)) (a.eval x)) (hks : si.kind = .slice es ea) (hkt : ti.kind = .str)
    (hek : si.ek = some .u8) {o : Oper} (ho : o.op = .convert s t x) : OutOK P F w B M a o (.val (.str [])) := by
  obtain ⟨_, de, _, _, hde, _, _, _, _, _, _, hkd⟩ := tiOf_spec (hΓ _ _ hs).1
  obtain ⟨_, de', _, _, hde', _, _, _, _, _, _, hkd'⟩ := tiOf_spec (hΓ _ _ ht).1
  obtain ⟨e, rfl, hse⟩ := kind_slice (by rw [hkd]; exact hks)
  obtain rfl := kind_str (by rw [hkd']; exact hkt)
  have hu8 := elem_kind (hΓ _ _ hs).1 hde hek
  generalize hv : a.eval x = v at hx
  cases hx
  refine ⟨.string ⟨([] : List UInt8).toArray⟩, ?_, .str []⟩
  unfold execOp
  simp only [ho, hv, Sem.run_bind]
  rw [run_convert_bytes_string w s t e none 0 0 hde hu8 hde']
  rfl

/-- The bytes of a string as a new slice. -/
theorem ev_bytesOf (hΓ : ΓOK P Γ) {s t : Nat} {ea : Bool} {si ti : TI} (hs : Γ s = some si) (ht : Γ t = some ti) {x : Operand} {l : List UInt8} (hx : Rep F w B (.str l) (a.eval x)) (hks : si.kind = .str) (hkt : ti.kind = .slice 1 ea)
    (hek : ti.ek = some .u8) (hez : ti.ez.length = 1) (hlim : l.length ≤ limit) {o : Oper} (ho : o.op = .convert s t x) (m : Bool) : OutOK P F w B M a o (.row ti.elt m none (MkOb 1 (l.map fun b => .val (.int .u8 b.toNat)) l.length)) := by
  obtain ⟨_, de, _, _, hde, _, _, _, _, _, _, hkd⟩ := tiOf_spec (hΓ _ _ hs).1
  obtain ⟨_, de', _, _, hde', _, _, _, _, _, _, hkd'⟩ := tiOf_spec (hΓ _ _ ht).1
  obtain rfl := kind_str (by rw [hkd]; exact hks)
  obtain ⟨e, rfl, hse⟩ := kind_slice (by rw [hkd']; exact hkt)
  have hu8 := elem_kind (hΓ _ _ ht).1 hde' hek
  obtain ⟨i, z, hi, hz, hzc, hzf, hbs, hel, hsz⟩ := elem_spec (hΓ _ _ ht).1 hde' hez (by omega)
  have hel : ti.elt = e := hel
  intro α d enc q hspec hgood
  obtain ⟨_, d', enc', q', h1, h2, h3, h4⟩ := hspec
  cases h4
  generalize hv : a.eval x = v at hx
  cases hx
  have hss : (⟨l.toArray⟩ : ByteArray).size = l.length := by show l.toArray.size = _; simp
  have hrun := Lib.run_convert_string_bytes (P := P) w s t e ⟨l.toArray⟩ hde hde' hu8
  rw [hss] at hrun
  have hge := grownCap_ge w l.length 0 e
  have hcm : grownCap w l.length 0 e ≤ maxLen := grownCap_le_maxLen w _ 0 e (by simp only [limit] at hlim; simp only [maxLen]; omega)
  have hcs : (Lib.bytesCells w e ⟨l.toArray⟩).size = grownCap w l.length 0 e := by
    simp only [Lib.bytesCells, Array.size_append, Array.size_map, Array.size_replicate, hss]
    simp
    omega
  refine ⟨some w.heap.size, l.length, grownCap w l.length 0 e, Lib.bytesWorld w e ⟨l.toArray⟩, l.map fun b => .int .u8 b.toNat, none, 0, _, ?_, .inl rfl, h2.symm, ?_, ⟨by rw [h3]; simp, .inr ⟨_, _, _, rfl, by rw [hel]; exact Lib.bytesWorld_at_new w e _, ?_, hge, hcm, by rw [h3, hcs, Nat.mul_one], ?_⟩⟩, .inr ⟨rfl, ⟨rfl, rfl, rfl, ?_, fun k hk _ => Lib.bytesWorld_at_old w e _ k hk⟩⟩, Nat.zero_le _, rfl⟩
  · unfold execOp
    simp only [ho, hv, Sem.run_bind, hrun, Result.andThen_ok, Sem.run_pure]
    rfl
  · refine h1.rep ?_
    clear hss hrun hge hcm hcs h1 h2 hlim hv
    induction l with
    | nil => exact .nil
    | cons b l ih => exact .cons _ _ _ _ (.val _ rfl) ih
  · intro j hj
    simp only
    omega
  · rw [h3, Nat.mul_one]
    simp only [Lib.bytesCells, Array.toList_append, Array.toList_map]
    rw [List.take_left' (by simp)]
  · rw [Lib.bytesWorld_size]; omega

theorem ev_lenRow (hΓ : ΓOK P Γ) (hb : Base F0 w0 B F M w) (hL : RowsIn M L) {c : Call} {t : Nat} {ti : TI} (ht : Γ t = some ti) {es : Nat} {ea : Bool} (hk : ti.kind = .slice es ea) (hat : c.argTypes.toList = [t]) {k tt : Nat} {m : Bool} {α : Type} {dz : α} {enc : α → List D} {l : List α} (hl : L.lookup k = some (tt, [.rowc m dz enc l]))
    (hc : c.callee = .builtin .len) (hg : GetOK F w B a get) (ha : getAll get c.args.toList = some [.row k]) {o : Oper} (ho : o.op = .call c) : OutOK P F w B M a o (.val (.val (.int .i64 l.length))) := by
  obtain ⟨_, de, _, _, hde, _, _, _, _, _, _, hkd⟩ := tiOf_spec (hΓ _ _ ht).1
  obtain ⟨e, rfl, hse⟩ := kind_slice (by rw [hkd]; exact hk)
  obtain ⟨p, n, cap, hB, hrow⟩ := hb.row' (hL _ _ _ _ _ _ _ hl)
  have h := hg.all _ _ ha
  have hm : c.args.map a.eval = (c.args.toList.map a.eval).toArray := by apply Array.ext'; simp
  generalize hvs : c.args.toList.map a.eval = vs at h hm
  cases h with
  | cons _ v _ vs' hd hs =>
    cases hs
    have hat' : c.argTypes = #[t] := by apply Array.ext'; simpa using hat
    cases hd with
    | row _ p' n' cap' hB' =>
      rw [hB] at hB'; cases hB'
      refine ⟨_, ?_, .val _ rfl⟩
      unfold execOp
      simp only [ho, resolve, hc, hm, hat', Sem.run_bind, Sem.run_pure, Result.andThen_ok, invoke, builtin, Builtin.len_, rowVal]
      simp [run_underlying hde, goInt, hrow.1]
    | rowNil _ q hB' =>
      rw [hB] at hB'
      simp only [Option.some.injEq, Ref.row.injEq] at hB'
      obtain ⟨rfl, hl0, rfl⟩ := hB'
      have h0 := hrow.1
      have hl1 : l.length = 0 := by omega
      rw [hl1]
      refine ⟨_, ?_, .val _ rfl⟩
      unfold execOp
      simp only [ho, resolve, hc, hm, hat', Sem.run_bind, Sem.run_pure, Result.andThen_ok, invoke, builtin, Builtin.len_]
      simp [run_underlying hde, goInt]

theorem ev_indexRow (hΓ : ΓOK P Γ) (hb : Base F0 w0 B F M w) (hL : RowsIn M L) {t : Nat} {ti : TI} (ht : Γ t = some ti) {x y : Operand} {k tt : Nat} {m : Bool} {α : Type} {dz : α} {enc : α → List D} {l : List α} (hl : L.lookup k = some (tt, [.rowc m dz enc l])) {kk : IntKind} {n : Int} {es : Nat} {ea : Bool}
    (hx : Rep F w B (.row k) (a.eval x)) (hy : Rep F w B (.val (.int kk n)) (a.eval y)) (hk : ti.kind = .slice es ea) (hc : 0 ≤ n ∧ n < (l.length : Int)) {o : Oper} (ho : o.op = .indexAddr t x y) : OutOK P F w B M a o (.val (.elm k n es 0)) := by
  obtain ⟨i, de, z, hi, hde, hz, hz1, hz2, hz3, hsz, hag, hkd⟩ := tiOf_spec (hΓ _ _ ht).1
  rw [hk] at hkd
  obtain ⟨e, rfl, hse⟩ := kind_slice hkd
  obtain ⟨p, n0, cap, hB, hrow⟩ := hb.row' (hL _ _ _ _ _ _ _ hl)
  obtain ⟨hn0, _, _, xs, _, hown, _⟩ := hrow
  generalize hv : a.eval x = vx at hx
  generalize hu : a.eval y = vy at hy
  cases hy with
  | val _ _ =>
    cases hx with
    | row _ p' n' cap' hB' =>
      rw [hB] at hB'; cases hB'
      rcases hown.2 with ⟨_, h7, _⟩ | ⟨g, cur, fz, rfl, _⟩
      · omega
      · refine ⟨.pointer (some ⟨g, n.toNat * es + 0, none⟩), ?_, .elm k n es 0 g n0 cap hB⟩
        unfold execOp
        have h3 : 0 ≤ n ∧ n < (n0 : Int) := by omega
        simp only [ho, hv, hu, Instr.indexAt, asIntOf, rowVal, Option.map_some, Sem.run_bind, run_underlying hde, Result.andThen_ok, Sem.run_pure, Sem.run_ite, if_pos h3, (szOf_spec hse).1, add_eq, Nat.zero_add, Nat.add_zero]
    | rowNil _ q hB' =>
      rw [hB] at hB'
      simp only [Option.some.injEq, Ref.row.injEq] at hB'
      omega

/-- The cells of an element. -/
theorem OwnRow.elem {e size g n cap : Nat} {xs : List Value} (h : OwnRow w e size (some g) n cap xs) {i j : Nat} (hi : i < n) (hj : j < size) : w.cell? ⟨g, i * size + j, none⟩ = ((xs.drop (i * size)).take size)[j]? := by
  have hle : i * size + size ≤ n * size := by rw [← Nat.succ_mul]; exact Nat.mul_le_mul_right _ hi
  have hj2 : i * size + j < xs.length := by rw [h.1]; omega
  rw [h.cells (List.getElem?_eq_getElem hj2), List.getElem?_take, if_pos hj, List.getElem?_drop, List.getElem?_eq_getElem hj2]

theorem ev_loadElm (hΓ : ΓOK P Γ) (hb : Base F0 w0 B F M w) (hL : RowsIn M L) {t : Nat} {ti : TI} (ht : Γ t = some ti) {x : Operand} {k tt : Nat} {m : Bool} {α : Type} {dz : α} {enc : α → List D} {l : List α} (hl : L.lookup k = some (tt, [.rowc m dz enc l])) {n : Int} {z off : Nat} {d : D}
    (hx : Rep F w B (.elm k n z off) (a.eval x)) (hz : (enc dz).length = z) (hp : partOf ti.agg ti.size off (enc (l[n.toNat]?.getD dz)) = some d) (hc : 0 ≤ n ∧ n < (l.length : Int)) {o : Oper} (ho : o.op = .load t x) : OutOK P F w B M a o (.val d) := by
  obtain ⟨p, n0, cap, hB, hrow⟩ := hb.row' (hL _ _ _ _ _ _ _ hl)
  obtain ⟨hn0, _, hge, xs, hxs, hown, _⟩ := hrow
  subst hz
  generalize hv : a.eval x = vx at hx
  cases hx with
  | elm _ _ _ _ g nn cap' hB' =>
    rw [hB] at hB'; cases hB'
    have hn : n.toNat < l.length := by omega
    have hr := RepL.flatMap_get (fun x => (hge x).1) l xs hxs n.toNat _ (List.getElem?_eq_getElem hn)
    rw [List.getElem?_eq_getElem hn] at hp
    have hlen := RepL.length hr
    have hel : ∀ j : Nat, n.toNat < n0 → j < (enc dz).length → _ := fun j hi hj => hown.elem (i := n.toNat) (j := j) hi hj
    rw [hn0] at hel
    obtain ⟨v, hrun, hrep⟩ := run_loadVar' (hΓ _ _ ht).1 hr hp (b := g) (o := n.toNat * (enc dz).length) (fun j v hj => by
      have hj' := (List.getElem?_eq_some_iff.1 hj).1
      have hjz : j < (enc dz).length := by simp at hj'; omega
      rw [hel j hn hjz]; exact hj) (by
      unfold partOf at hp
      split at hp
      · split at hp
        · rename_i h9; simp only [Option.getD_some] at h9; omega
        · cases hp
      · have := (List.getElem?_eq_some_iff.1 hp).1; simp only [Option.getD_some] at this; omega)
    refine ⟨v, ?_, hrep.lift (fun _ => rfl)⟩
    unfold execOp
    simp only [ho, hv, Instr.loadAt, Instr.sureAddr, Sem.run_bind, Sem.run_pure, Result.andThen_ok]
    rw [hrun]; rfl

theorem ev_storeElm (hΓ : ΓOK P Γ) (hb : Base F0 w0 B F M w) (hL : RowsIn M L) {t : Nat} {ti : TI} (ht : Γ t = some ti) {x y : Operand} {k : Nat} {n : Int} {z off : Nat} {d : D} (hx : Rep F w B (.elm k n z off) (a.eval x)) (hy : Rep F w B d (a.eval y))
    (h1 : d.cells.length = ti.size) (h2 : off + ti.size ≤ z) {o : Oper} (ho : o.op = .store t x y) : OutOK P F w B M a o (.upd k n z off (D.seals L d.cells)) := by
  obtain ⟨i, de, zz, hi, hd, hz, hz1, hz2, hz3, hsz, hag, hk⟩ := tiOf_spec (hΓ _ _ ht).1
  have hcells := hy.cells
  have hlc := RepL.length hcells
  refine ⟨(a.eval y).cells.toList, hcells.sealed hb hL, fun t' α d' enc l hm hze hn0 hn hfl => ?_⟩
  obtain ⟨p, n0, cap, hB, hrow⟩ := hb.row' hm
  obtain ⟨hnl, _, hge, xs, hxs, hown, _⟩ := hrow
  have hseal : (D.seals L d.cells).length = ti.size := by unfold D.seals; rw [subs_length, h1]
  generalize hv : a.eval x = vx at hx
  cases hx with
  | elm _ _ _ _ g nn cap' hB' =>
    rw [hB] at hB'; cases hB'
    rcases hown.2 with ⟨hp, _⟩ | ⟨g', cur, fz, hp, hh, hfz, hnc, hcm, hcs, htk⟩
    · cases hp
    · cases hp
      refine ⟨g, n0, cap, cur, fz, hB, hh, by rw [hseal]; exact h2, ?_⟩
      have hone : ∀ u ∈ (a.eval y).cells.toList, u.oneCell' = true := RepL.all_flat (hcells.sealed hb hL) hfl
      have hl3 : (a.eval y).cells.toList.length = ti.size := by omega
      have hle : n.toNat * z + z ≤ cur.size := by
        rw [hcs, ← hze, ← Nat.succ_mul]
        exact Nat.mul_le_mul_right _ (by omega)
      have hst := run_storeCells_fz (P := P) g (n.toNat * z + off) t' fz (a.eval y).cells.toList 0 cur w hh hfz (by rw [hl3]; omega) hone
      unfold execOp
      simp only [ho, hv, Instr.storeAt, Instr.sureAddr, Sem.run_bind, Sem.run_pure, Result.andThen_ok, storeVar, run_sizeOf' hi, hsz]
      have hsize : (a.eval y).cells.size = ti.size := by rw [← h1, ← hlc]; simp
      simp only [hsize, ne_eq, not_true_eq_false, if_false, Sem.run_bind, Sem.run_pure, Result.andThen_ok]
      rw [hst]
      simp [setVals]

theorem drew_cell (w : World) (p : Addr) : w.drew.cell? p = w.cell? p := rfl
end
end Go.Proofs.Yteliiabopphgmaa.RX
