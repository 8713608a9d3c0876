/-
  The evaluator of one operation is sound. Over any program.
-/
import Derived.Test.YteliiabopphgmaaRxRow
import Derived.ChangeAgain
namespace Go.Proofs.Yteliiabopphgmaa.RX
open Go.RowKit

abbrev Mem := Nat → Nat → List D → Prop
def memL (L : Boxes) : Mem := fun k t ds => (k, t, ds) ∈ L

/-- Where a walk set out: the world, and the blocks of before that it was given. -/
abbrev LIM : Nat := 1000000
/-- The program's own blocks are as in some world that has its shape. -/
def Shp (P : Program) (w : World) : Prop := ∃ w0 : World, w0.ShapedOpen P ∧ P.low ≤ w.heap.size ∧ ∀ k, k < P.low → w.heap[k]? = w0.heap[k]?
structure Pt (P : Program) where
  w : World
  own : Nat → Prop
  env : Nat → Option Ref
  low : ∀ k, env k ≠ none → LIM ≤ k
  sh : Shp P w
  high : ∀ b, own b → P.low ≤ b
def Pt.top {P : Program} (w : World) (h : Shp P w) : Pt P := ⟨w, fun _ => False, fun _ => none, fun _ h => absurd rfl h, h, fun _ h => h.elim⟩
def Pt.fresh {P : Program} (w0 : Pt P) (b : Nat) : Prop := w0.w.heap.size ≤ b ∨ w0.own b
theorem Pt.fresh_high {P : Program} {w0 : Pt P} {b : Nat} (h : w0.fresh b) : P.low ≤ b := by
  rcases h with h | h
  · obtain ⟨_, _, h1, _⟩ := w0.sh; omega
  · exact w0.high b h
structure BelowS (S : Nat → Prop) (n : Nat) (w w' : World) : Prop where
  os : w'.os = w.os
  tape : w'.tape = w.tape
  output : w'.output = w.output
  size : w.heap.size ≤ w'.heap.size
  block : ∀ k, k < n → ¬ S k → w'.heap[k]? = w.heap[k]?
/-- What key k holds. -/
inductive Held (F : Fz) (w : World) (B : Env) (k t : Nat) : List D → Prop
  | box (ds : List D) (b : Nat) (vs : List Value) (hB : B k = some (.box b)) (hr : RepL F w B ds vs) (hfl : ds.all D.flat = true) (hh : w.heap[b]? = some (.cells vs.toArray t (0, 0))) (hnf : ∀ j, ¬ F b j) : Held F w B k t ds
  | row (m : Bool) {α : Type} (d : α) (enc : α → List D) (l : List α) (p : Option Nat) (n cap : Nat) (hB : B k = some (.row p n cap)) (h : RowOK F w p n cap t m d enc l) : Held F w B k t [.rowc m d enc l]
def blkOf (B : Env) (k : Nat) : Option Nat := (B k).bind Ref.blk
structure Base {P : Program} (F0 : Fz) (w0 : Pt P) (B : Env) (F : Fz) (M : Mem) (w : World) : Prop where
  boxes : ∀ k t ds, M k t ds → Held F w B k t ds
  new : ∀ k t ds b, M k t ds → blkOf B k = some b → w0.fresh b
  inj : ∀ i j b, (∃ t ds, M i t ds) → (∃ t ds, M j t ds) → blkOf B i = some b → blkOf B j = some b → i = j
  frz : ∀ g k, F g k → g < w.heap.size
  more : ∀ g k, F g k → F0 g k ∨ w0.fresh g
  grow : Grow F0 F w0.w w
  below : BelowS w0.own w0.w.heap.size w0.w w
  env : ∀ k b, w0.env k = some b → B k = some b

theorem BelowS.refl (S : Nat → Prop) (n : Nat) (w : World) : BelowS S n w w := ⟨rfl, rfl, rfl, Nat.le_refl _, fun _ _ _ => rfl⟩
theorem BelowS.trans {S : Nat → Prop} {n : Nat} {a b c : World} (h : BelowS S n a b) (h' : BelowS S n b c) : BelowS S n a c :=
  ⟨h'.os.trans h.os, h'.tape.trans h.tape, h'.output.trans h.output, Nat.le_trans h.size h'.size, fun k hk hs => (h'.block k hk hs).trans (h.block k hk hs)⟩
theorem BelowS.of {S : Nat → Prop} {n : Nat} {w w' : World} (h : Below n w w') : BelowS S n w w' := ⟨h.os, h.tape, h.output, h.size, fun k hk _ => h.block k hk⟩
theorem BelowS.below {n : Nat} {w w' : World} (h : BelowS (fun _ => False) n w w') : Below n w w' := ⟨h.os, h.tape, h.output, h.size, fun k hk => h.block k hk id⟩
theorem Grow.trans {F F' F'' : Fz} {w w' w'' : World} (h : Grow F F' w w') (h' : Grow F' F'' w' w'') : Grow F F'' w w'' :=
  ⟨fun g k hF => h'.frz g k (h.frz g k hF), fun g k hF => (h'.cell g k (h.frz g k hF)).trans (h.cell g k hF)⟩

section
variable {P : Program} {F0 : Fz} {w0 : Pt P} {B : Env} {F : Fz} {M : Mem} {w : World}
theorem blkOf_box {B : Env} {k b : Nat} (h : B k = some (.box b)) : blkOf B k = some b := by simp [blkOf, h, Ref.blk]
theorem blkOf_row {B : Env} {k n cap : Nat} {p : Option Nat} (h : B k = some (.row p n cap)) : blkOf B k = p := by simp [blkOf, h, Ref.blk]
theorem Base.shp (hb : Base F0 w0 B F M w) : Shp P w := by
  obtain ⟨w1, h1, h2, h3⟩ := w0.sh
  refine ⟨w1, h1, Nat.le_trans h2 hb.below.size, fun k hk => ?_⟩
  rw [hb.below.block k (Nat.lt_of_lt_of_le hk h2) fun h => absurd hk (Nat.not_lt.2 (w0.high k h))]
  exact h3 k hk
/-- A key that stands for a box holds cells. -/
theorem Base.box' (hb : Base F0 w0 B F M w) {k t : Nat} {ds : List D} (hl : M k t ds) {b : Nat} (hB : B k = some (.box b)) :
    ∃ vs, RepL F w B ds vs ∧ ds.all D.flat = true ∧ w.heap[b]? = some (.cells vs.toArray t (0, 0)) ∧ w0.fresh b ∧ ∀ j, ¬ F b j := by
  have hn := hb.new _ _ _ b hl (blkOf_box hB)
  cases hb.boxes _ _ _ hl with
  | box _ b' vs hB' hr hfl hh hnf => rw [hB] at hB'; cases hB'; exact ⟨vs, hr, hfl, hh, hn, hnf⟩
  | row m d enc l p n cap hB' h => rw [hB] at hB'; cases hB'
theorem Base.row' (hb : Base F0 w0 B F M w) {k t : Nat} {m : Bool} {α : Type} {d : α} {enc : α → List D} {l : List α} (hl : M k t [.rowc m d enc l]) : ∃ p n cap, B k = some (.row p n cap) ∧ RowOK F w p n cap t m d enc l := by
  have hh := hb.boxes _ _ _ hl
  generalize hds : [D.rowc m d enc l] = ds at hh
  cases hh with
  | box _ b' vs hB' hr hfl hh hnf => subst hds; simp [D.flat] at hfl
  | row m' d' enc' l' p n cap hB' h =>
    cases hds
    exact ⟨p, n, cap, hB', h⟩
theorem Held.lt {k t : Nat} {ds : List D} (h : Held F w B k t ds) {b : Nat} (hb : blkOf B k = some b) : b < w.heap.size := by
  cases h with
  | box _ b' vs hB hr hfl hh hnf =>
    rw [blkOf_box hB] at hb; cases hb
    exact (Array.getElem?_eq_some_iff.1 hh).1
  | row m d enc l p n cap hB h =>
    rw [blkOf_row hB] at hb; subst hb
    obtain ⟨_, _, _, xs, _, h5, _⟩ := h
    rcases h5.2 with ⟨h1, _⟩ | ⟨g, cur, fz, hp, hh, _⟩
    · cases h1
    · cases hp; exact (Array.getElem?_eq_some_iff.1 hh).1
/-- What is held is held as long as its block stays as it is. -/
theorem Held.grow {F' : Fz} {w' : World} {B' : Env} {k t : Nat} {ds : List D} (h : Held F w B k t ds) (g : Grow F F' w w') (hB : B' k = B k) (hR : ∀ F w vs, RepL F w B ds vs → RepL F w B' ds vs)
    (hb : ∀ b, blkOf B k = some b → w'.heap[b]? = w.heap[b]? ∧ ∀ j, F' b j → F b j) : Held F' w' B' k t ds := by
  cases h with
  | box _ b vs hB0 hr hfl hh hnf =>
    obtain ⟨h1, h2⟩ := hb b (blkOf_box hB0)
    exact .box _ b vs (by rw [hB]; exact hB0) ((hR _ _ _ hr).grow g) hfl (by rw [h1]; exact hh) fun j hj => hnf j (h2 j hj)
  | row m d enc l p n cap hB0 h => exact .row m d enc l p n cap (by rw [hB]; exact hB0) (h.grow g fun b hp => hb b (by rw [blkOf_row hB0, hp]))
theorem Rep.sealRow (hb : Base F0 w0 B F M w) {k t : Nat} {α : Type} {d : α} {enc : α → List D} {l : List α} (hl : M k t [.rowc true d enc l]) {v : Value} (hv : Rep F w B (.row k) v) : Rep F w B (.recs d enc l) v := by
  obtain ⟨p, n, cap, hB, h⟩ := hb.row' hl
  cases hv with
  | row _ p' n' cap' hB' => rw [hB] at hB'; cases hB'; exact h.recs
  | rowNil _ q hB' =>
    rw [hB] at hB'
    simp only [Option.some.injEq, Ref.row.injEq] at hB'
    obtain ⟨rfl, rfl, rfl⟩ := hB'
    exact h.recsV (.inr ⟨rfl, rfl, rfl, q, rfl⟩)
/-- The rows that a list of boxes tells of are there. -/
def RowsIn (M : Mem) (L : Boxes) : Prop := ∀ (k t : Nat) (m : Bool) (α : Type) (d : α) (enc : α → List D) (l : List α), L.lookup k = some (t, [.rowc m d enc l]) → M k t [.rowc m d enc l]
theorem sealS_ok (hb : Base F0 w0 B F M w) {L : Boxes} (hL : RowsIn M L) : SubOK F w B B (sealS L) := by
  refine ⟨fun d r v h hv => ?_, fun _ _ _ => rfl, fun _ _ => rfl, fun _ _ _ _ _ => rfl⟩
  cases d <;> simp only [sealS] at h <;> first | (cases h; done) | skip
  split at h
  · rename_i k t α d enc l hl
    cases h
    exact hv.sealRow hb (hL _ _ _ _ _ _ _ hl)
  · cases h
theorem Rep.sealed (hb : Base F0 w0 B F M w) {L : Boxes} (hL : RowsIn M L) {d : D} {v : Value} (h : Rep F w B d v) : Rep F w B (d.shut L) v := h.sub (sealS_ok hb hL)
theorem RepL.sealed (hb : Base F0 w0 B F M w) {L : Boxes} (hL : RowsIn M L) {d : List D} {v : List Value} (h : RepL F w B d v) : RepL F w B (D.seals L d) v := h.sub (sealS_ok hb hL)
end

section
variable {P : Program}

theorem mem_of_lookup {β : Type _} {L : List (Nat × β)} {k : Nat} {x : β} (h : L.lookup k = some x) : (k, x) ∈ L := by
  induction L with
  | nil => cases h
  | cons y L ih =>
    obtain ⟨k', x'⟩ := y
    simp only [List.lookup_cons] at h
    split at h
    · rename_i he
      have : k = k' := by simpa using he
      cases h; subst this; exact List.mem_cons_self
    · exact List.mem_cons_of_mem _ (ih h)

theorem cell_block {w : World} {b t : Nat} {cs : Array Value} {fz} (h : w.heap[b]? = some (.cells cs t fz)) (j : Nat) : w.cell? ⟨b, j, none⟩ = cs[j]? := by
  simp [World.cell?, h]

theorem RepL.all_flat {F w B} : ∀ {ds vs}, RepL F w B ds vs → ds.all D.flat = true → ∀ v ∈ vs, v.oneCell' = true
  | _, _, .nil, _, v, hv => by simp at hv
  | _, _, .cons d v ds vs h hs, ha, u, hu => by
    simp only [List.all_cons, Bool.and_eq_true] at ha
    rcases List.mem_cons.1 hu with rfl | hu
    · have := Rep.one h ha.1
      cases u <;> first | rfl | (simp [flatV] at this)
    · exact RepL.all_flat hs ha.2 u hu

theorem ofValues {F w B} : ∀ (vs : List Value), vs.all flatV = true → RepL F w B (vs.map ofValue) vs
  | [], _ => .nil
  | v :: vs, h => by
    simp only [List.all_cons, Bool.and_eq_true] at h
    exact .cons _ _ _ _ (Rep.ofValue v h.1) (ofValues vs h.2)
theorem flat_ofValue (v : Value) : (ofValue v).flat = true := by
  unfold ofValue; split <;> rfl

theorem take_set_succ {α : Type} (l : List α) (n : Nat) (a : α) (h : n < l.length) : (l.set n a).take (n + 1) = l.take n ++ [a] := by
  induction l generalizing n with
  | nil => simp at h
  | cons x l ih =>
    cases n with
    | zero => simp
    | succ n => simp only [List.set_cons_succ, List.take_succ_cons, List.cons_append]; rw [ih n (by simpa using h)]

theorem fill_sound {F w B} (place : Nat → Option (Nat × Nat)) : ∀ (ps : List (Nat × D)) (qs : List (Nat × Value)) (ds : List D) (vs : List Value) (r : List D),
    RepL F w B ds vs → fillParts place ds ps = some r → (qs.map (·.1) = ps.map (·.1)) → RepL F w B (ps.map (·.2)) (qs.map (·.2)) →
    ∃ us, Instr.fill place vs.toArray qs = some us.toArray ∧ RepL F w B r us
  | [], qs, ds, vs, r, h, hf, hq, _ => by
    have : qs = [] := by simpa using hq
    subst this
    cases hf
    exact ⟨vs, rfl, h⟩
  | (i, d) :: ps, qs, ds, vs, r, h, hf, hq, hr => by
    cases qs with
    | nil => simp at hq
    | cons q qs =>
      obtain ⟨i', v⟩ := q
      simp only [List.map_cons, List.cons.injEq] at hq
      obtain ⟨rfl, hq⟩ := hq
      simp only [List.map_cons] at hr
      cases hr with
      | cons _ _ _ _ hdv hrest =>
        unfold fillParts at hf
        unfold Instr.fill
        cases hp : place i' with
        | none => rw [hp] at hf; cases hf
        | some os =>
          obtain ⟨off, size⟩ := os
          rw [hp] at hf
          simp only at hf ⊢
          split at hf
          · rename_i hc
            obtain ⟨hc1, hc2⟩ := hc
            have hcells := hdv.cells
            have hl1 := RepL.length hcells
            have hl2 := RepL.length h
            have hsz : v.cells.size = d.cells.length := by rw [← hl1]; simp
            rw [if_neg (by simp; omega)]
            obtain ⟨us, hu, hur⟩ := fill_sound place ps qs _ (setVals vs off v.cells.toList) r (RepL.sets hcells off h) hf hq hrest
            refine ⟨us, ?_, hur⟩
            rw [← hu]
            congr 1
            have hgen : ∀ (l : List Value) (k : Nat) (cs : Array Value), off + k + l.length ≤ cs.size → (l.zipIdx k).foldl (fun cs x => cs.setIfInBounds (off + x.2) x.1) cs = (cs.toList.take (off + k) ++ l ++ cs.toList.drop (off + k + l.length)).toArray := by
              intro l
              induction l with
              | nil => intro k cs _; simp
              | cons a l ih =>
                intro k cs hk
                simp only [List.zipIdx_cons, List.foldl_cons]
                rw [ih (k + 1) _ (by simp at hk ⊢; omega)]
                simp only [List.length_cons] at hk
                rw [Array.toList_setIfInBounds, show off + (k + 1) = off + k + 1 by omega, take_set_succ _ _ _ (by simp; omega), List.drop_set_of_lt (by omega)]
                simp [Nat.add_comm, Nat.add_left_comm, Nat.add_assoc]
            have h3 := hgen v.cells.toList 0 vs.toArray (by simp; omega)
            rw [← Array.foldl_toList, Array.toList_zipIdx]
            rw [h3]
            simp [setVals]
          · cases hf

def FOK (P : Program) (f : Nat) : Prop := ∃ fn, P.funcs[f]? = some fn ∧ (fn.name == "runtime.NumGoroutine") = false ∧ fn.body.isNone = false

/-- A row has come of another one: in its place, or in a new block. -/
def RowStep (w w' : World) (p p0 : Option Nat) (pre : Nat) : Prop :=
  (p = p0 ∧ w.grownBy w' p0 ∧ ∀ b, p0 = some b → ∀ j, j < pre → w'.cell? ⟨b, j, none⟩ = w.cell? ⟨b, j, none⟩) ∨ (p = some w.heap.size ∧ w.grownBy w' none)
def OutOK (P : Program) (F : Fz) (w : World) (B : Env) (M : Mem) (a : Act) (o : Oper) : Out → Prop
  | .val d => ∃ v, (execOp a.eval o).run P w = .ok (.value v) w ∧ Rep F w B d v
  | .box t cells => ∃ vs, RepL F w B cells vs ∧ (execOp a.eval o).run P w = .ok (.value (.pointer (some ⟨w.heap.size, 0, none⟩))) (w.alloc (.cells vs.toArray t))
  | .store k off cells => ∃ b t ds vs us, B k = some (.box b) ∧ M k t ds ∧ RepL F w B ds vs ∧ w.heap[b]? = some (.cells vs.toArray t (0, 0)) ∧ RepL F w B cells us ∧ off + cells.length ≤ ds.length ∧
      (cells.all D.flat = true → (execOp a.eval o).run P w = .ok .skip (w.setRow b (setVals vs off us).toArray))
  | .call f args => ∃ vs, RepL F w B args vs ∧ (execOp a.eval o).run P w = (callFunc f vs.toArray).run P w
  | .row e _ old spec => ∀ (α : Type) (d : α) (enc : α → List D) (l : List α), spec (.recs d enc l) → GoodR (.recs d enc l) → ∃ p n cap w' xs p0 pre v, (execOp a.eval o).run P w = .ok (.value v) w' ∧ IsRow v p n cap ∧ n = l.length ∧ RepL F w NB (l.flatMap enc) xs ∧
      OwnRow w' e (enc d).length p n cap xs ∧ RowStep w w' p p0 pre ∧ pre ≤ n * (enc d).length ∧ (match old with | none => p0 = none | some k => ∃ n0 cap0, B k = some (.row p0 n0 cap0) ∧ ∀ b, p0 = some b → ∀ j, F b j → j < pre)
  | .upd k n z off cells => ∃ us, RepL F w B cells us ∧ ∀ (t : Nat) (α : Type) (d : α) (enc : α → List D) (l : List α), M k t [.rowc false d enc l] → z = (enc d).length → 0 ≤ n → n < (l.length : Int) → cells.all D.flat = true →
      ∃ b nn cap cur fz, B k = some (.row (some b) nn cap) ∧ w.heap[b]? = some (.cells cur t fz) ∧ off + cells.length ≤ z ∧ (execOp a.eval o).run P w = .ok .skip (w.setRow b (setVals cur.toList (n.toNat * z + off) us).toArray)
  | .arow t _ _ d => ∃ vs, RepL F w NB d.cells vs ∧ (execOp a.eval o).run P w = .ok (.value (.pointer (some ⟨w.heap.size, 0, none⟩))) (w.alloc (.cells vs.toArray t))
  | .fill k z m d => ∃ us, RepL F w NB d.cells us ∧ ∀ (t : Nat) (α : Type) (d0 : α) (enc : α → List D) (l : List α), M k t [.rowc false d0 enc l] → (enc d0).length = z → l.length = m → us.length = m * z → d.cells.all D.flat = true → 0 < m →
      ∃ b nn cap cur fz, B k = some (.row (some b) nn cap) ∧ w.heap[b]? = some (.cells cur t fz) ∧ (execOp a.eval o).run P w = .ok .skip (w.setRow b (setVals cur.toList 0 us).toArray)
  | .turn k z m d => ∃ us, RepL F w NB d.cells us ∧ (us.length = m * z → d.cells.all D.flat = true →
      ∃ b t ds vs, B k = some (.box b) ∧ M k t ds ∧ w.heap[b]? = some (.cells vs t (0, 0)) ∧ vs.size = m * z ∧ (∀ j, ¬ F b j) ∧ (execOp a.eval o).run P w = .ok .skip (w.setRow b us.toArray))
  | .known spec => ∀ d, spec d → ∃ v, (execOp a.eval o).run P w = .ok (.value v) w ∧ Rep F w B d v

/-- What the operands are known to be. -/
def GetOK (F : Fz) (w : World) (B : Env) (a : Act) (get : Operand → Option D) : Prop := ∀ x d, get x = some d → Rep F w B d (a.eval x)

variable {F0 : Fz} {w0 : Pt P} {B : Env} {F : Fz} {M : Mem} {w : World} {a : Act} {get : Operand → Option D} {Γ : Nat → Option TI}

theorem GetOK.all (h : GetOK F w B a get) : ∀ (xs : List Operand) (ds : List D), getAll get xs = some ds → RepL F w B ds (xs.map a.eval)
  | [], ds, he => by cases he; exact .nil
  | x :: xs, ds, he => by
    unfold getAll at he
    split at he
    · rename_i d ds' hd hds
      cases he
      exact .cons _ _ _ _ (h _ _ hd) (GetOK.all h xs ds' hds)
    · cases he
theorem GetOK.parts (h : GetOK F w B a get) : ∀ (xs : List (Nat × Operand)) (ds : List (Nat × D)), getParts get xs = some ds → ds.map (·.1) = xs.map (·.1) ∧ RepL F w B (ds.map (·.2)) (xs.map fun x => a.eval x.2)
  | [], ds, he => by cases he; exact ⟨rfl, .nil⟩
  | (i, x) :: xs, ds, he => by
    unfold getParts at he
    split at he
    · rename_i d ds' hd hds
      cases he
      have := GetOK.parts h xs ds' hds
      exact ⟨by simp [this.1], .cons _ _ _ _ (h _ _ hd) this.2⟩
    · cases he

theorem ev_alloc (hΓ : ΓOK P Γ) {t : Nat} {ti : TI} (ht : Γ t = some ti) {o : Oper} (ho : o.op = .alloc t) : OutOK P F w B M a o (.box t (ti.zero.map ofValue)) := by
  obtain ⟨i, d, z, hi, hd, hz, hz1, hz2, hz3, hsz, hag, hk⟩ := tiOf_spec (hΓ _ _ ht).1
  refine ⟨ti.zero, ofValues _ hz2, ?_⟩
  unfold execOp
  simp only [ho, Instr.alloc, zeroValue, Sem.run_bind, run_typeInfo w hi, Result.andThen_ok, hz, Sem.run_pure, newVar, newRow, run_newObj]
  have : z.cells = ti.zero.toArray := by rw [← hz1]
  rw [this]
  rfl

theorem ev_box {t : Nat} {x : Operand} {d : D} (hd : Rep F w B d (a.eval x)) {o : Oper} (ho : o.op = .box t x) : OutOK P F w B M a o (.box t d.cells) := by
  refine ⟨(a.eval x).cells.toList, hd.cells, ?_⟩
  unfold execOp
  simp only [ho, Instr.box, Sem.run_bind, Result.andThen_ok, Sem.run_pure, newVar, newRow, run_newObj]
  rfl

theorem run_places : ∀ (l : List Field) (r : List (Nat × Nat × Bool)), fieldsOf P l = some r → ∀ w, (l.mapM (m := Sem) fun f => do pure (f.offset, ← sizeOf f.type)).run P w = .ok (r.map fun g => (g.1, g.2.1)) w
  | [], r, h, w => by cases h; rfl
  | f :: fs, r, h, w => by
    unfold fieldsOf at h
    split at h
    · rename_i s r' hs hr
      cases h
      have ih := run_places fs r' hr w
      rw [List.mapM_cons]
      simp only [Sem.run_bind, (szOf_spec hs).1, Result.andThen_ok, Sem.run_pure]
      rw [ih]
      rfl
    · cases h

theorem ev_build (hΓ : ΓOK P Γ) {t : Nat} {ti : TI} (ht : Γ t = some ti) {parts : Array (Nat × Operand)} {ps : List (Nat × D)} (hg : GetOK F w B a get) (hp : getParts get parts.toList = some ps)
    {o : Oper} (ho : o.op = .build t parts) {r : List D}
    (hr : (match ti.kind with
      | .struct fs => fillParts (fun i => (fs[i]?).map fun f => (f.1, f.2.1)) (ti.zero.map ofValue) ps
      | .array _ es _ => fillParts (fun i => some (i * es, es)) (ti.zero.map ofValue) ps
      | _ => none) = some r) : OutOK P F w B M a o (.val (.agg r)) := by
  obtain ⟨i, d, z, hi, hd, hz, hz1, hz2, hz3, hsz, hag, hk⟩ := tiOf_spec (hΓ _ _ ht).1
  obtain ⟨hq, hqr⟩ := hg.parts _ _ hp
  have hzc : z.cells = ti.zero.toArray := by rw [← hz1]
  have hrun : ∀ (place : Nat → Option (Nat × Nat)), fillParts place (ti.zero.map ofValue) ps = some r → ∃ us, Instr.fill place ti.zero.toArray (parts.toList.map fun x => (x.1, a.eval x.2)) = some us.toArray ∧ RepL F w B r us := by
    intro place hf
    exact fill_sound place ps _ _ _ r (ofValues _ hz2) hf (by simp [hq]) (by rw [List.map_map]; exact hqr)
  cases hkd : ti.kind <;> rw [hkd] at hr <;> simp only at hr <;> first | (cases hr; done) | skip
  · rename_i fs
    rw [hkd] at hk
    obtain ⟨fields, rfl, hfs⟩ := kind_struct hk
    obtain ⟨us, hu, hur⟩ := hrun _ hr
    refine ⟨.agg us.toArray, ?_, .agg _ _ hur⟩
    unfold execOp
    simp only [ho, Instr.build, zeroValue, Sem.run_bind, run_typeInfo w hi, Result.andThen_ok, hz, Sem.run_pure, run_underlying hd, hzc, Array.toList_map, Array.mapM_eq_mapM_toList, Sem.run_map]
    have hpl := run_places _ _ hfs w
    rw [hpl]
    simp only [Result.andThen_ok]
    have hfun : (fun (x : Nat) => (List.map (fun g : Nat × Nat × Bool => (g.1, g.2.1)) fs).toArray[x]?) = fun i => (fs[i]?).map fun f => (f.1, f.2.1) := by
      funext i; simp
    rw [hfun, hu]
    simp
  · rename_i n es ea
    rw [hkd] at hk
    obtain ⟨e, rfl, hse⟩ := kind_array hk
    obtain ⟨us, hu, hur⟩ := hrun _ hr
    refine ⟨.agg us.toArray, ?_, .agg _ _ hur⟩
    unfold execOp
    simp only [ho, Instr.build, zeroValue, Sem.run_bind, run_typeInfo w hi, Result.andThen_ok, hz, Sem.run_pure, run_underlying hd, (szOf_spec hse).1, hzc, Array.toList_map]
    rw [hu]
    simp

theorem ev_load (hΓ : ΓOK P Γ) (hb : Base F0 w0 B F M w) {t : Nat} {ti : TI} (ht : Γ t = some ti) {x : Operand} {k off : Nat} {ty : Nat} {ds : List D} {d : D} (hx : Rep F w B (.own k off) (a.eval x))
    (hl : M k ty ds) (hp : partOf ti.agg ti.size off ds = some d) {o : Oper} (ho : o.op = .load t x) : OutOK P F w B M a o (.val d) := by
  generalize hv : a.eval x = vx at hx
  cases hx with
  | own _ _ b hB =>
    obtain ⟨vs, hr, hfl, hh, hn, hnf⟩ := hb.box' hl hB
    have hlen := RepL.length hr
    have hoff : off ≤ vs.length := by
      unfold partOf at hp
      split at hp
      · split at hp
        · omega
        · cases hp
      · have := (List.getElem?_eq_some_iff.1 hp).1; omega
    obtain ⟨v, hrun, hrep⟩ := run_loadVar' (hΓ _ _ ht).1 hr hp (b := b) (o := 0) (fun j v hj => by rw [cell_block hh]; simpa using hj) hoff
    refine ⟨v, ?_, hrep⟩
    unfold execOp
    simp only [ho, hv, Instr.loadAt, Instr.sureAddr, Sem.run_bind, Sem.run_pure, Result.andThen_ok]
    simp only [Nat.zero_add] at hrun
    rw [hrun]; rfl

theorem ev_loadEl (hΓ : ΓOK P Γ) {t : Nat} {ti : TI} (ht : Γ t = some ti) {x : Operand} {ds : List D} {d : D} (hx : Rep F w B (.el ds) (a.eval x))
    (hp : partOf ti.agg ti.size 0 ds = some d) {o : Oper} (ho : o.op = .load t x) : OutOK P F w B M a o (.val d) := by
  generalize hv : a.eval x = vx at hx
  cases hx with
  | el _ vs g off h h2 =>
    obtain ⟨v, hrun, hrep⟩ := run_loadVar' (hΓ _ _ ht).1 h hp (b := g) (o := off) (fun j v hj => by
      have hj' := (List.getElem?_eq_some_iff.1 hj).1
      rw [(h2 j hj').2]; exact hj) (Nat.zero_le _)
    refine ⟨v, ?_, hrep.lift (fun _ => rfl)⟩
    unfold execOp
    simp only [ho, hv, Instr.loadAt, Instr.sureAddr, Sem.run_bind, Sem.run_pure, Result.andThen_ok]
    simp only [Nat.add_zero] at hrun
    rw [hrun]; rfl

theorem ev_store (hΓ : ΓOK P Γ) (hb : Base F0 w0 B F M w) {t : Nat} {ti : TI} (ht : Γ t = some ti) {x y : Operand} {k off : Nat} {ty : Nat} {ds : List D} {d : D} (hx : Rep F w B (.own k off) (a.eval x)) (hy : Rep F w B d (a.eval y))
    (hl : M k ty ds) (h1 : d.cells.length = ti.size) (h2 : off + ti.size ≤ ds.length) {o : Oper} (ho : o.op = .store t x y) : OutOK P F w B M a o (.store k off d.cells) := by
  obtain ⟨i, de, z, hi, hd, hz, hz1, hz2, hz3, hsz, hag, hk⟩ := tiOf_spec (hΓ _ _ ht).1
  generalize hv : a.eval x = vx at hx
  cases hx with
  | own _ _ b hB =>
    obtain ⟨vs, hr, hfl, hh, hn, hnf⟩ := hb.box' hl hB
    have hcells := hy.cells
    have hlc := RepL.length hcells
    have hlen := RepL.length hr
    refine ⟨b, ty, ds, vs, (a.eval y).cells.toList, hB, hl, hr, hh, hcells, by omega, fun hflat => ?_⟩
    have hone : ∀ u ∈ (a.eval y).cells.toList, u.oneCell' = true := RepL.all_flat hcells hflat
    have hl3 : (a.eval y).cells.toList.length = ti.size := by omega
    have hst := run_storeCells_at (P := P) b off ty (a.eval y).cells.toList 0 vs.toArray w hh (by rw [hl3]; simp; omega) hone
    unfold execOp
    simp only [ho, hv, Instr.storeAt, Instr.sureAddr, Sem.run_bind, Sem.run_pure, Result.andThen_ok, storeVar, run_sizeOf' hi, hsz]
    have hsize : (a.eval y).cells.size = ti.size := by rw [← h1, ← hlc]; simp
    simp only [hsize, ne_eq, not_true_eq_false, if_false, Sem.run_bind, Sem.run_pure, Result.andThen_ok]
    rw [hst]
    simp [setVals]

theorem ev_field (hΓ : ΓOK P Γ) {t : Nat} {ti : TI} (ht : Γ t = some ti) {x : Operand} {f : Nat} {ds : List D} {d : D} {fs} {g} (hx : Rep F w B (.agg ds) (a.eval x)) (hk : ti.kind = .struct fs) (hf : fs[f]? = some g)
    (hp : partOf g.2.2 g.2.1 g.1 ds = some d) {o : Oper} (ho : o.op = .field t x f) : OutOK P F w B M a o (.val d) := by
  obtain ⟨i, de, z, hi, hd, hz, hz1, hz2, hz3, hsz, hag, hkd⟩ := tiOf_spec (hΓ _ _ ht).1
  rw [hk] at hkd
  obtain ⟨fields, rfl, hfs⟩ := kind_struct hkd
  obtain ⟨fd, hfd, hoff, hfsz⟩ := fieldsOf_get hfs f g hf
  generalize hv : a.eval x = vx at hx
  cases hx with
  | agg _ vs h =>
    obtain ⟨v, hrun, hrep⟩ := run_part hfsz (off := fd.offset) h (by rw [hoff]; exact hp) w
    refine ⟨v, ?_, hrep⟩
    unfold execOp
    have hfd' : fields[f]? = some fd := by simpa using hfd
    simp only [ho, hv, Instr.field, Sem.run_bind, run_underlying hd, Result.andThen_ok, hfd', asAgg, Sem.run_pure]
    rw [hrun]; rfl

theorem run_fieldPlace {fd : Field} {s : Nat × Bool} (hs : szOf P fd.type = some s) (h0 : s.1 ≠ 0) (b off : Nat) (w : World) : (fieldPlace ⟨b, off, none⟩ fd).run P w = .ok ⟨b, off + fd.offset, none⟩ w := by
  unfold fieldPlace
  simp only [Sem.run_bind, (szOf_spec hs).1, Result.andThen_ok, if_neg h0, Sem.run_pure, add_eq]

theorem ev_fieldAddr (hΓ : ΓOK P Γ) {t : Nat} {ti : TI} (ht : Γ t = some ti) {x : Operand} {f : Nat} {fs} {g} {d d' : D} (hx : Rep F w B d (a.eval x)) (hk : ti.kind = .struct fs) (hf : fs[f]? = some g) (h0 : g.2.1 ≠ 0)
    (hd : (∃ k off, d = .own k off ∧ d' = .own k (off + g.1)) ∨ (∃ ds, d = .el ds ∧ d' = .el (ds.drop g.1)) ∨ (∃ k n z off, d = .elm k n z off ∧ d' = .elm k n z (off + g.1)))
    {o : Oper} (ho : o.op = .fieldAddr t x f) : OutOK P F w B M a o (.val d') := by
  obtain ⟨i, de, z, hi, hde, hz, hz1, hz2, hz3, hsz, hag, hkd⟩ := tiOf_spec (hΓ _ _ ht).1
  rw [hk] at hkd
  obtain ⟨fields, rfl, hfs⟩ := kind_struct hkd
  obtain ⟨fd, hfd, hoff, hfsz⟩ := fieldsOf_get hfs f g hf
  have hfd' : fields[f]? = some fd := by simpa using hfd
  generalize hv : a.eval x = vx at hx
  rcases hd with ⟨k, off, rfl, rfl⟩ | ⟨ds, rfl, rfl⟩ | ⟨k, n, z, off, rfl, rfl⟩
  · cases hx with
    | own _ _ b hB =>
      refine ⟨.pointer (some ⟨b, off + g.1, none⟩), ?_, .own _ _ b hB⟩
      unfold execOp
      simp only [ho, hv, Instr.fieldAt, Sem.run_bind, run_underlying hde, Result.andThen_ok, hfd', Instr.sureAddr, Sem.run_pure, run_fieldPlace hfsz h0, hoff]
  · cases hx with
    | el _ vs gb off h h2 =>
      refine ⟨.pointer (some ⟨gb, off + g.1, none⟩), ?_, .el _ (vs.drop g.1) gb (off + g.1) (h.drop _) (fun j hj => ?_)⟩
      · unfold execOp
        simp only [ho, hv, Instr.fieldAt, Sem.run_bind, run_underlying hde, Result.andThen_ok, hfd', Instr.sureAddr, Sem.run_pure, run_fieldPlace hfsz h0, hoff]
      · have := h2 (g.1 + j) (by simp at hj; omega)
        rw [show off + g.1 + j = off + (g.1 + j) by omega]
        refine ⟨this.1, this.2.trans ?_⟩
        simp
  · cases hx with
    | elm _ _ _ _ b nn cap hB =>
      refine ⟨.pointer (some ⟨b, n.toNat * z + off + g.1, none⟩), ?_, ?_⟩
      · unfold execOp
        simp only [ho, hv, Instr.fieldAt, Sem.run_bind, run_underlying hde, Result.andThen_ok, hfd', Instr.sureAddr, Sem.run_pure, run_fieldPlace hfsz h0, hoff]
      · have := Rep.elm (F := F) (w := w) k n z (off + g.1) b nn cap hB
        rwa [← Nat.add_assoc] at this

theorem ev_indexRecs (hΓ : ΓOK P Γ) {t : Nat} {ti : TI} (ht : Γ t = some ti) {x y : Operand} {α : Type} {dz : α} {enc : α → List D} {l : List α} {k : IntKind} {n : Int} {es : Nat} {ea : Bool}
    (hx : Rep F w B (.recs dz enc l) (a.eval x)) (hy : Rep F w B (.val (.int k n)) (a.eval y)) (hk : ti.kind = .slice es ea) (hlen : (enc dz).length = es)
    (hc : 0 ≤ n ∧ n < (l.length : Int)) {o : Oper} (ho : o.op = .indexAddr t x y) : OutOK P F w B M a o (.val (.el (enc (l[n.toNat]?.getD dz)))) := by
  obtain ⟨i, de, z, hi, hde, hz, hz1, hz2, hz3, hsz, hag, hkd⟩ := tiOf_spec (hΓ _ _ ht).1
  rw [hk] at hkd
  obtain ⟨e, rfl, hse⟩ := kind_slice hkd
  generalize hv : a.eval x = vx at hx
  generalize hu : a.eval y = vy at hy
  cases hy with
  | val _ _ =>
    cases hx with
    | recsNil _ _ _ => simp at hc; omega
    | recs _ _ _ g off cap size vs hsize h1 h2 h3 hcap =>
      have hn : n.toNat < l.length := by omega
      have hes : size = es := by rw [hsize, hlen]
      subst hes
      refine ⟨.pointer (some ⟨g, off + n.toNat * size, none⟩), ?_, .el _ (vs n.toNat) g (off + n.toNat * size) (h2 _ hn) (fun j hj => ?_)⟩
      · unfold execOp
        have : (0 ≤ n ∧ n < (l.length : Int)) := hc
        simp only [ho, hv, hu, Instr.indexAt, asIntOf, Sem.run_bind, run_underlying hde, Result.andThen_ok, Sem.run_pure, Sem.run_ite, if_pos this, (szOf_spec hse).1, add_eq]
      · have := h3 n.toNat j hn (by rw [← h1 _ hn]; exact hj)
        exact this

theorem ev_indexStr (hΓ : ΓOK P Γ) {t : Nat} {ti : TI} (ht : Γ t = some ti) {x y : Operand} {l : List UInt8} {k : IntKind} {n : Int}
    (hx : Rep F w B (.str l) (a.eval x)) (hy : Rep F w B (.val (.int k n)) (a.eval y)) (hk : ti.kind = .str)
    (hc : 0 ≤ n ∧ n < (l.length : Int)) {o : Oper} (ho : o.op = .index t x y) : OutOK P F w B M a o (.val (.val (.int .u8 (l[n.toNat]?.getD 0).toNat))) := by
  obtain ⟨i, de, z, hi, hde, hz, hz1, hz2, hz3, hsz, hag, hkd⟩ := tiOf_spec (hΓ _ _ ht).1
  rw [hk] at hkd
  obtain rfl := kind_str hkd
  generalize hv : a.eval x = vx at hx
  generalize hu : a.eval y = vy at hy
  cases hy with
  | val _ _ =>
    cases hx with
    | str _ =>
      refine ⟨_, ?_, .val _ rfl⟩
      have hn : n.toNat < l.length := by omega
      have hget : (⟨l.toArray⟩ : ByteArray)[n.toNat]? = some l[n.toNat] := by
        have h9 : n.toNat < (⟨l.toArray⟩ : ByteArray).size := by show n.toNat < l.toArray.size; simpa using hn
        rw [getElem?_pos (⟨l.toArray⟩ : ByteArray) n.toNat h9]; rfl
      unfold execOp
      simp only [ho, hv, hu, Instr.index, asIntOf, Sem.run_bind, run_underlying hde, Result.andThen_ok, Sem.run_pure, if_pos hc.1, hget]
      simp [hn]

theorem ev_indexArr (hΓ : ΓOK P Γ) {t : Nat} {ti : TI} (ht : Γ t = some ti) {x y : Operand} {k : IntKind} {n : Int} {m es : Nat} {ea : Bool} {ds : List D} {d : D}
    (hx : Rep F w B (.agg ds) (a.eval x)) (hy : Rep F w B (.val (.int k n)) (a.eval y)) (hk : ti.kind = .array m es ea) (hp : partOf ea es (n.toNat * es) ds = some d)
    (hc : 0 ≤ n ∧ n < (m : Int)) {o : Oper} (ho : o.op = .index t x y) : OutOK P F w B M a o (.val d) := by
  obtain ⟨i, de, z, hi, hde, hz, hz1, hz2, hz3, hsz, hag, hkd⟩ := tiOf_spec (hΓ _ _ ht).1
  rw [hk] at hkd
  obtain ⟨e, rfl, hse⟩ := kind_array hkd
  generalize hv : a.eval x = vx at hx
  generalize hu : a.eval y = vy at hy
  cases hy with
  | val _ _ =>
    cases hx with
    | agg _ vs h =>
      obtain ⟨v, hrun, hrep⟩ := run_part hse (off := n.toNat * es) h hp w
      refine ⟨v, ?_, hrep⟩
      unfold execOp
      simp only [ho, hv, hu, Instr.index, asIntOf, Sem.run_bind, run_underlying hde, Result.andThen_ok, Sem.run_pure, Sem.run_ite, if_pos hc, (szOf_spec hse).1]
      rw [hrun]; rfl

theorem ev_indexOwn (hΓ : ΓOK P Γ) {t : Nat} {ti : TI} (ht : Γ t = some ti) {x y : Operand} {k : IntKind} {n : Int} {m es : Nat} {ea : Bool} {key off : Nat}
    (hx : Rep F w B (.own key off) (a.eval x)) (hy : Rep F w B (.val (.int k n)) (a.eval y)) (hk : ti.kind = .array m es ea)
    (hc : 0 ≤ n ∧ n < (m : Int)) {o : Oper} (ho : o.op = .indexAddr t x y) : OutOK P F w B M a o (.val (.own key (off + n.toNat * es))) := by
  obtain ⟨i, de, z, hi, hde, hz, hz1, hz2, hz3, hsz, hag, hkd⟩ := tiOf_spec (hΓ _ _ ht).1
  rw [hk] at hkd
  obtain ⟨e, rfl, hse⟩ := kind_array hkd
  generalize hv : a.eval x = vx at hx
  generalize hu : a.eval y = vy at hy
  cases hy with
  | val _ _ =>
    cases hx with
    | own _ _ b hB =>
      refine ⟨.pointer (some ⟨b, off + n.toNat * es, none⟩), ?_, .own _ _ b hB⟩
      unfold execOp
      simp only [ho, hv, hu, Instr.indexAt, Instr.sureAddr, asIntOf, Sem.run_bind, run_underlying hde, Result.andThen_ok, Sem.run_pure, Sem.run_ite, if_pos hc, (szOf_spec hse).1, add_eq]

theorem ext_str (l : List UInt8) (a b : Nat) : (⟨l.toArray⟩ : ByteArray).extract a b = ⟨((l.drop a).take (b - a)).toArray⟩ := by
  apply WideShapes.bytes_inj
  rw [Lib.extract_data]

theorem run_bound {x : Value} {k : IntKind} {n : Int} (hx : x = .int k n) {y : Nat} (h : 0 ≤ n ∧ n ≤ (y : Int)) (c : BoundsCode) (w : World) : (Instr.sliceBound x y c).run P w = .ok n.toNat w := by
  subst hx
  simp only [Instr.sliceBound, asIntOf, Sem.run_bind, Sem.run_pure, Result.andThen_ok, Sem.run_ite, if_pos h]

def lowOf (lo : Option D) : Nat := match lo with | some (.val (.int _ n)) => n.toNat | _ => 0
def highOf (len : Nat) (hi : Option D) : Nat := match hi with | some (.val (.int _ n)) => n.toNat | _ => len
def boundsOK (len : Nat) (lo hi : Option D) : Prop :=
  (match hi with | none => True | some (.val (.int _ n)) => 0 ≤ n ∧ n ≤ (len : Int) | _ => False) ∧
  (match lo with | none => True | some (.val (.int _ n)) => 0 ≤ n ∧ n ≤ (highOf len hi : Int) | _ => False)

theorem run_bounds {isSlice : Bool} {len cap : Nat} (hcap : len ≤ cap) {lo hi : Option Operand} {dlo dhi : Option D} (hg : GetOK F w B a get) (hlo : omap get lo = some dlo) (hhi : omap get hi = some dhi)
    (hb : boundsOK len dlo dhi) (w' : World) : (Instr.sliceBounds isSlice len cap (lo.map a.eval) (hi.map a.eval) none).run P w' = .ok (lowOf dlo, highOf len dhi, cap) w' ∧ lowOf dlo ≤ highOf len dhi ∧ highOf len dhi ≤ len := by
  obtain ⟨hb1, hb2⟩ := hb
  have key : ∀ (x : Operand) (dd : Option D), omap get (some x) = some dd → ∀ (N : Nat), (match dd with | none => True | some (.val (.int _ n)) => 0 ≤ n ∧ n ≤ (N : Int) | _ => False) →
      ∃ k n, dd = some (.val (.int k n)) ∧ a.eval x = .int k n ∧ 0 ≤ n ∧ n ≤ (N : Int) := by
    intro x dd he N hN
    simp only [omap] at he
    cases hx : get x with
    | none => rw [hx] at he; cases he
    | some d =>
      rw [hx] at he; cases he
      have hr := hg _ _ hx
      split at hN
      · rename_i h; cases h
      · rename_i k n h
        cases h
        generalize ha : a.eval x = vx at hr
        cases hr
        exact ⟨k, n, rfl, rfl, hN⟩
      · cases hN
  cases hi with
  | none =>
    cases hhi
    cases lo with
    | none =>
      cases hlo
      refine ⟨?_, Nat.zero_le _, Nat.le_refl _⟩
      simp [Instr.sliceBounds, lowOf, highOf]
    | some x =>
      obtain ⟨k, n, rfl, hx, h0, h1⟩ := key x dlo hlo _ hb2
      refine ⟨?_, by simp only [lowOf, highOf] at *; omega, Nat.le_refl _⟩
      have := run_bound (P := P) hx ⟨h0, h1⟩ .sliceB w'
      simp only [highOf] at this
      simp [Instr.sliceBounds, lowOf, highOf, this]
  | some y =>
    obtain ⟨k, n, rfl, hy, h0, h1⟩ := key y dhi hhi _ hb1
    have hrun := fun c => run_bound (P := P) (w := w') hy (y := cap) ⟨h0, by omega⟩ c
    cases lo with
    | none =>
      cases hlo
      refine ⟨?_, Nat.zero_le _, by simp only [highOf]; omega⟩
      simp [Instr.sliceBounds, lowOf, highOf, hrun]
    | some x =>
      obtain ⟨k', n', rfl, hx, h0', h1'⟩ := key x dlo hlo _ hb2
      simp only [highOf] at h1'
      refine ⟨?_, by simp only [lowOf, highOf]; omega, by simp only [highOf]; omega⟩
      have := run_bound (P := P) hx (y := n.toNat) ⟨h0', h1'⟩ .sliceB w'
      simp [Instr.sliceBounds, lowOf, highOf, hrun, this]

theorem ev_sliceStr (hΓ : ΓOK P Γ) {t : Nat} {ti : TI} (ht : Γ t = some ti) {x : Operand} {l : List UInt8} {lo hi : Option Operand} {dlo dhi : Option D}
    (hg : GetOK F w B a get) (hx : Rep F w B (.str l) (a.eval x)) (hlo : omap get lo = some dlo) (hhi : omap get hi = some dhi) (hk : ti.kind = .str)
    (hb : boundsOK l.length dlo dhi) {o : Oper} (ho : o.op = .slice t x lo hi none) : OutOK P F w B M a o (.val (.str ((l.drop (lowOf dlo)).take (highOf l.length dhi - lowOf dlo)))) := by
  obtain ⟨i, de, z, hi', hde, hz, hz1, hz2, hz3, hsz, hag, hkd⟩ := tiOf_spec (hΓ _ _ ht).1
  rw [hk] at hkd
  obtain rfl := kind_str hkd
  generalize hv : a.eval x = vx at hx
  cases hx with
  | str _ =>
    refine ⟨_, ?_, .str _⟩
    have hs : (⟨l.toArray⟩ : ByteArray).size = l.length := by show l.toArray.size = _; simp
    have := (run_bounds (P := P) (isSlice := false) (Nat.le_refl l.length) hg hlo hhi hb w).1
    unfold execOp
    simp only [ho, hv, Instr.sliceAt, Instr.slice, Sem.run_bind, run_underlying hde, Result.andThen_ok, Option.map_none, Option.isSome_none, Bool.false_eq_true, if_false, hs, Sem.run_pure]
    rw [this]
    simp only [Result.andThen_ok, Sem.run_pure, ext_str]

theorem ev_sliceRecs (hΓ : ΓOK P Γ) {t : Nat} {ti : TI} (ht : Γ t = some ti) {x : Operand} {α : Type} {dz : α} {enc : α → List D} {l : List α} {lo hi : Option Operand} {dlo dhi : Option D} {es : Nat} {ea : Bool}
    (hg : GetOK F w B a get) (hx : Rep F w B (.recs dz enc l) (a.eval x)) (hlo : omap get lo = some dlo) (hhi : omap get hi = some dhi) (hk : ti.kind = .slice es ea) (hlen : (enc dz).length = es)
    (hb : boundsOK l.length dlo dhi) {o : Oper} (ho : o.op = .slice t x lo hi none) : OutOK P F w B M a o (.val (.recs dz enc ((l.drop (lowOf dlo)).take (highOf l.length dhi - lowOf dlo)))) := by
  obtain ⟨i, de, z, hi', hde, hz, hz1, hz2, hz3, hsz, hag, hkd⟩ := tiOf_spec (hΓ _ _ ht).1
  rw [hk] at hkd
  obtain ⟨e, rfl, hse⟩ := kind_slice hkd
  generalize hv : a.eval x = vx at hx
  cases hx with
  | recsNil _ _ p =>
    obtain ⟨h1, h2, h3⟩ := run_bounds (P := P) (isSlice := true) (len := 0) (cap := 0) (Nat.le_refl 0) hg hlo hhi hb w
    simp only [List.length_nil]
    have hl0 : lowOf dlo = 0 := by omega
    have hh0 : highOf 0 dhi = 0 := by omega
    rw [hl0, hh0] at h1 ⊢
    refine ⟨.slice p 0 0, ?_, .recsNil _ _ p⟩
    unfold execOp
    simp only [ho, hv, Instr.sliceAt, Instr.slice, Sem.run_bind, run_underlying hde, Result.andThen_ok, Option.map_none, Sem.run_pure]
    rw [h1]
    cases p <;> simp [(szOf_spec hse).1]
  | recs _ _ _ g off cap size vs hsize h1 h2 h3 hcap =>
    obtain ⟨hr, hr2, hr3⟩ := run_bounds (P := P) (isSlice := true) hcap hg hlo hhi hb w
    generalize hlo' : lowOf dlo = lo' at *
    generalize hhi' : highOf l.length dhi = hi' at *
    have hes : size = es := by rw [hsize, hlen]
    have hl : ((l.drop lo').take (hi' - lo')).length = hi' - lo' := by simp; omega
    have hget : ∀ i, i < hi' - lo' → ((l.drop lo').take (hi' - lo'))[i]? = l[lo' + i]? := by
      intro i hi; rw [List.getElem?_take, if_pos hi, List.getElem?_drop]
    by_cases hc : cap = lo'
    · refine ⟨.slice (some ⟨g, off, none⟩) (hi' - lo') (cap - lo'), ?_, ?_⟩
      · unfold execOp
        simp only [ho, hv, Instr.sliceAt, Instr.slice, Sem.run_bind, run_underlying hde, Result.andThen_ok, Option.map_none, Sem.run_pure]
        rw [hr]
        simp [(szOf_spec hse).1, hc]
      · have h0 : hi' - lo' = 0 := by omega
        rw [h0, List.take_zero]
        exact .recs _ _ [] g off (cap - lo') size vs hsize (fun i hi => by simp at hi) (fun i hi => by simp at hi) (fun i j hi => by simp at hi) (Nat.zero_le _)
    · refine ⟨.slice (some ⟨g, off + lo' * size, none⟩) (hi' - lo') (cap - lo'), ?_, ?_⟩
      · unfold execOp
        simp only [ho, hv, Instr.sliceAt, Instr.slice, Sem.run_bind, run_underlying hde, Result.andThen_ok, Option.map_none, Sem.run_pure]
        rw [hr]
        simp [(szOf_spec hse).1, hc, add_eq, hes]
      · have := Rep.recs (F := F) (w := w) (B := B) dz enc ((l.drop lo').take (hi' - lo')) g (off + lo' * size) (cap - lo') size (fun i => vs (lo' + i)) hsize
          (fun i hi => h1 _ (by omega)) (fun i hi => by rw [hget i (by omega)]; exact h2 _ (by omega))
          (fun i j hi hj => by
            have := h3 (lo' + i) j (by omega) hj
            rwa [Nat.add_mul, ← Nat.add_assoc] at this) (by omega)
        rwa [hl] at this

theorem eqGuard_int (op : BinOp) (t : Nat) (x y : Operand) (k k' : IntKind) (m n : Int) (w : World) : (eqGuard op t x y (.int k m) (.int k' n)).run P w = .ok () w := by
  unfold eqGuard; split <;> rfl
theorem eqGuard_str (op : BinOp) (t : Nat) (x y : Operand) (m n : ByteArray) (w : World) : (eqGuard op t x y (.string m) (.string n)).run P w = .ok () w := by
  unfold eqGuard; split <;> rfl
theorem eqGuard_bool (op : BinOp) (t : Nat) (x y : Operand) (m n : Bool) (w : World) : (eqGuard op t x y (.bool m) (.bool n)).run P w = .ok () w := by
  unfold eqGuard; split <;> rfl

theorem run_intBin {op : BinOp} {t : Nat} {k : IntKind} {m n : Int} {d : D} {cs : List Bool} (he : binD op (.val (.int k m)) (.val (.int k n)) = some (d, cs)) (hc : ∀ c ∈ cs, c = true) (w : World) :
    ∃ v, (Go.binOp op t (.int k m) (.int k n)).run P w = .ok v w ∧ flatV v = true ∧ d = .val v := by
  simp only [binD] at he
  split at he
  · -- shl
    simp only [shiftBin] at he
    cases he
    have h0 : ¬ n < 0 := by have := hc _ (List.mem_singleton.2 rfl); simpa using this
    refine ⟨_, ?_, rfl, rfl⟩
    simp [Go.binOp, Op.shift, h0]
  · simp only [shiftBin] at he
    cases he
    have h0 : ¬ n < 0 := by have := hc _ (List.mem_singleton.2 rfl); simpa using this
    refine ⟨_, ?_, rfl, rfl⟩
    simp [Go.binOp, Op.shift, h0]
  · simp only [if_true] at he
    by_cases hq : op = .quo
    · subst hq
      simp only [intBin] at he
      cases he
      have h0 : ¬ n = 0 := by have := hc _ (List.mem_singleton.2 rfl); simpa using this
      exact ⟨_, by simp [Go.binOp, Op.intDiv, h0], rfl, rfl⟩
    by_cases hr : op = .rem
    · subst hr
      simp only [intBin] at he
      cases he
      have h0 : ¬ n = 0 := by have := hc _ (List.mem_singleton.2 rfl); simpa using this
      exact ⟨_, by simp [Go.binOp, Op.intDiv, h0], rfl, rfl⟩
    cases op <;> simp only [intBin] at he <;> first
      | (exact absurd rfl hq)
      | (exact absurd rfl hr)
      | (cases he; done)
      | (cases he; exact ⟨_, by simp [Go.binOp, Op.intArith, Op.intBits, Op.intCmp], rfl, rfl⟩)

theorem binD_int {op : BinOp} {k k' : IntKind} {m n : Int} {r} (he : binD op (.val (.int k m)) (.val (.int k' n)) = some r) : (op = .shl ∨ op = .shr) ∨ k = k' := by
  simp only [binD] at he
  split at he
  · exact .inl (.inl rfl)
  · exact .inl (.inr rfl)
  · split at he
    · exact .inr (by assumption)
    · cases he

theorem run_shift {op : BinOp} {t : Nat} {k k' : IntKind} {m n : Int} {d : D} {cs : List Bool} (ho : op = .shl ∨ op = .shr) (he : binD op (.val (.int k m)) (.val (.int k' n)) = some (d, cs)) (hc : ∀ c ∈ cs, c = true) (w : World) :
    ∃ v, (Go.binOp op t (.int k m) (.int k' n)).run P w = .ok v w ∧ flatV v = true ∧ d = .val v := by
  rcases ho with rfl | rfl
  all_goals
    simp only [binD, shiftBin] at he
    cases he
    have h0 : ¬ n < 0 := by have := hc _ (List.mem_singleton.2 rfl); simpa using this
    refine ⟨_, ?_, rfl, rfl⟩
    simp [Go.binOp, Op.shift, h0]

theorem run_strBin {op : BinOp} {t : Nat} {p q : List UInt8} {d : D} {cs : List Bool} (he : strBin op p q = some (d, cs)) (hc : ∀ c ∈ cs, c = true) (w : World) :
    ∃ v, (Go.binOp op t (.string ⟨p.toArray⟩) (.string ⟨q.toArray⟩)).run P w = .ok v w ∧ Rep F w B d v := by
  have hp : (⟨p.toArray⟩ : ByteArray).toList = p := by rw [ByteArray.toList_eq]
  have hq : (⟨q.toArray⟩ : ByteArray).toList = q := by rw [ByteArray.toList_eq]
  cases op <;> simp only [strBin] at he <;> first
    | (cases he; done)
    | (cases he; refine ⟨_, ?_, .val _ rfl⟩; simp only [Go.binOp, Op.stringOp, hp, hq, Sem.run_pure]; done)
    | skip
  -- add
  cases he
  have h0 := hc _ (List.mem_singleton.2 rfl)
  have h1 := of_decide_eq_true h0
  have hs1 : (⟨p.toArray⟩ : ByteArray).size = p.length := by show p.toArray.size = _; simp
  have hs2 : (⟨q.toArray⟩ : ByteArray).size = q.length := by show q.toArray.size = _; simp
  refine ⟨.string ⟨(p ++ q).toArray⟩, ?_, .str _⟩
  have hmax : IntKind.i64.max = 9223372036854775807 := by decide
  have hn : ¬ (((p.length + q.length : Nat) : Int) > IntKind.i64.max) := by rw [hmax]; omega
  have happ : (⟨p.toArray⟩ : ByteArray) ++ ⟨q.toArray⟩ = ⟨(p ++ q).toArray⟩ := by
    apply WideShapes.bytes_inj
    simp
  simp only [Go.binOp, Op.stringOp, hs1, hs2, if_neg hn, Sem.run_pure, happ]

theorem ev_bin {op : BinOp} {t yt : Nat} {x y : Operand} {dx dy d : D} {cs : List Bool} (hx : Rep F w B dx (a.eval x)) (hy : Rep F w B dy (a.eval y)) (he : binD op dx dy = some (d, cs)) (hc : ∀ c ∈ cs, c = true)
    {o : Oper} (ho : o.op = .binOp op t x y yt) : OutOK P F w B M a o (.val d) := by
  generalize hv : a.eval x = vx at hx
  generalize hu : a.eval y = vy at hy
  have hex : ∀ v, (eqGuard op t x y vx vy).run P w = .ok () w → (Go.binOp op t vx vy).run P w = .ok v w → (execOp a.eval o).run P w = .ok (.value v) w := by
    intro v h1 h2
    unfold execOp
    simp only [ho, hv, hu, Sem.run_bind, h1, Result.andThen_ok, h2, Sem.run_pure]
  unfold binD at he
  split at he
  · rename_i k m k' n
    cases hx; cases hy
    have hb : binD op (.val (.int k m)) (.val (.int k' n)) = some (d, cs) := by unfold binD; exact he
    rcases binD_int hb with h | rfl
    · obtain ⟨v, h1, h2, rfl⟩ := run_shift (P := P) (t := t) h hb hc w
      exact ⟨v, hex v (eqGuard_int _ _ _ _ _ _ _ _ _) h1, .val _ h2⟩
    · obtain ⟨v, h1, h2, rfl⟩ := run_intBin (P := P) (t := t) hb hc w
      exact ⟨v, hex v (eqGuard_int _ _ _ _ _ _ _ _ _) h1, .val _ h2⟩
  · rename_i p q
    cases hx; cases hy
    obtain ⟨v, h1, h2⟩ := run_strBin (P := P) (t := t) (F := F) (B := B) he hc w
    exact ⟨v, hex v (eqGuard_str _ _ _ _ _ _ _) h1, h2⟩
  · cases he

theorem ev_binBool (hΓ : ΓOK P Γ) {op : BinOp} {t yt : Nat} {ti : TI} (ht : Γ t = some ti) (hk : ti.kind = .bool) {x y : Operand} {m n : Bool} (hx : Rep F w B (.val (.bool m)) (a.eval x)) (hy : Rep F w B (.val (.bool n)) (a.eval y))
    {r : Bool} (hop : (op = .eql ∧ r = (m == n)) ∨ (op = .neq ∧ r = !(m == n))) {o : Oper} (ho : o.op = .binOp op t x y yt) : OutOK P F w B M a o (.val (.val (.bool r))) := by
  obtain ⟨i, de, z, hi, hde, hz, hz1, hz2, hz3, hsz, hag, hkd⟩ := tiOf_spec (hΓ _ _ ht).1
  obtain rfl := kind_bool (by rw [hkd]; exact hk)
  generalize hv : a.eval x = vx at hx
  generalize hu : a.eval y = vy at hy
  cases hx; cases hy
  have heq : (Op.equal t (.bool m) (.bool n)).run P w = .ok (m == n) w := by
    rw [Op.equal, show Op.maxDepth = 9999 + 1 from rfl, Op.equalIn]
    simp [run_underlying hde]
  refine ⟨.bool r, ?_, .val _ rfl⟩
  unfold execOp
  rcases hop with ⟨rfl, rfl⟩ | ⟨rfl, rfl⟩
  all_goals
    simp only [ho, hv, hu, Sem.run_bind, eqGuard_bool, Result.andThen_ok, Go.binOp, heq, Sem.run_pure]

theorem eqGuard_operands (op : BinOp) (t : Nat) (x y x' y' : Operand) (m n : Array Value) (w w' : World) (h : (eqGuard .eql t x' y' (.agg m) (.agg n)).run P w = .ok () w') (ho : op = .eql ∨ op = .neq) : (eqGuard op t x y (.agg m) (.agg n)).run P w = .ok () w' := by
  rcases ho with rfl | rfl <;> exact h

theorem ev_binAgg (hΓ : ΓOK P Γ) {op : BinOp} {t yt : Nat} {ti : TI} (ht : Γ t = some ti) (hk : ti.eqs ≠ []) {x y : Operand} {p q : List D} {e : Bool} (hx : Rep F w B (.agg p) (a.eval x)) (hy : Rep F w B (.agg q) (a.eval y)) (hc : cmpCells ti.eqs p q = some e)
    {r : Bool} (hop : (op = .eql ∧ r = e) ∨ (op = .neq ∧ r = !e)) {o : Oper} (ho : o.op = .binOp op t x y yt) : OutOK P F w B M a o (.val (.val (.bool r))) := by
  have heq := (hΓ _ _ ht).2 hk
  generalize hv : a.eval x = vx at hx
  generalize hu : a.eval y = vy at hy
  cases hx with
  | agg _ vs h =>
    cases hy with
    | agg _ us h' =>
      obtain ⟨h1, h2⟩ := heq F w w B B p q vs us e h h' hc
      refine ⟨.bool r, ?_, .val _ rfl⟩
      unfold execOp
      rcases hop with ⟨rfl, rfl⟩ | ⟨rfl, rfl⟩
      · simp only [ho, hv, hu, Sem.run_bind, eqGuard_operands .eql t x y _ _ _ _ _ _ h1 (.inl rfl), Result.andThen_ok, Go.binOp, h2, Sem.run_pure]
      · simp only [ho, hv, hu, Sem.run_bind, eqGuard_operands .neq t x y _ _ _ _ _ _ h1 (.inr rfl), Result.andThen_ok, Go.binOp, h2, Sem.run_pure]

theorem ev_un {op : UnOp} {t : Nat} {x : Operand} {dx d : D} (hx : Rep F w B dx (a.eval x)) (he : unD op dx = some d) {o : Oper} (ho : o.op = .unOp op t x) : OutOK P F w B M a o (.val d) := by
  generalize hv : a.eval x = vx at hx
  unfold unD at he
  split at he
  all_goals first
    | (cases he; done)
    | (cases he; cases hx; exact ⟨_, by unfold execOp; simp only [ho, hv, Op.unary, Op.intArith, Op.intBits, Sem.run_bind, Sem.run_pure, Result.andThen_ok], .val _ rfl⟩)

theorem ev_convInt (hΓ : ΓOK P Γ) {s t : Nat} {si ti : TI} (hs : Γ s = some si) (ht : Γ t = some ti) {x : Operand} {k0 k k' : IntKind} {n : Int} (hx : Rep F w B (.val (.int k0 n)) (a.eval x)) (hks : si.kind = .int k') (hkt : ti.kind = .int k)
    {o : Oper} (ho : o.op = .convert s t x) : OutOK P F w B M a o (.val (.val (.int k (k.wrap n)))) := by
  obtain ⟨_, de, _, _, hde, _, _, _, _, _, _, hkd⟩ := tiOf_spec (hΓ _ _ hs).1
  obtain ⟨_, de', _, _, hde', _, _, _, _, _, _, hkd'⟩ := tiOf_spec (hΓ _ _ ht).1
  obtain rfl := kind_int (by rw [hkd]; exact hks)
  obtain rfl := kind_int (by rw [hkd']; exact hkt)
  generalize hv : a.eval x = vx at hx
  cases hx
  refine ⟨_, ?_, .val _ rfl⟩
  unfold execOp
  simp only [ho, hv, convert, Sem.run_bind, run_underlying hde, run_underlying hde', Result.andThen_ok, Conv.intToInt, Sem.run_pure]

theorem ev_convStr (hΓ : ΓOK P Γ) {s t : Nat} {si ti : TI} (hs : Γ s = some si) (ht : Γ t = some ti) {x : Operand} {l : List UInt8} (hx : Rep F w B (.str l) (a.eval x)) (hks : si.kind = .str) (hkt : ti.kind = .str)
    {o : Oper} (ho : o.op = .convert s t x) : OutOK P F w B M a o (.val (.str l)) := by
  obtain ⟨_, de, _, _, hde, _, _, _, _, _, _, hkd⟩ := tiOf_spec (hΓ _ _ hs).1
  obtain ⟨_, de', _, _, hde', _, _, _, _, _, _, hkd'⟩ := tiOf_spec (hΓ _ _ ht).1
  obtain rfl := kind_str (by rw [hkd]; exact hks)
  obtain rfl := kind_str (by rw [hkd']; exact hkt)
  generalize hv : a.eval x = vx at hx
  cases hx
  refine ⟨_, ?_, .str _⟩
  unfold execOp
  simp only [ho, hv, convert, Sem.run_bind, run_underlying hde, run_underlying hde', Result.andThen_ok, Sem.run_pure]

theorem ev_move {x : Operand} {d : D} (hx : Rep F w B d (a.eval x)) {o : Oper} (ho : o.op = .move x ∨ o.op = .assign x) : OutOK P F w B M a o (.val d) := by
  refine ⟨a.eval x, ?_, hx⟩
  unfold execOp
  rcases ho with ho | ho <;> simp only [ho, Sem.run_pure]

theorem ev_nilCheck {x : Operand} {d : D} (hx : Rep F w B d (a.eval x)) (hd : (∃ k off, d = .own k off) ∨ (∃ ds, d = .el ds) ∨ (∃ f c, d = .fn f c) ∨ (∃ k n z off, d = .elm k n z off)) {o : Oper} (ho : o.op = .nilCheck x) : OutOK P F w B M a o (.val d) := by
  refine ⟨a.eval x, ?_, hx⟩
  unfold execOp
  generalize hv : a.eval x = vx at hx
  rcases hd with ⟨k, off, rfl⟩ | ⟨ds, rfl⟩ | ⟨f, c, rfl⟩ | ⟨k, n, z, off, rfl⟩ <;> cases hx <;> simp only [ho, hv, Sem.run_pure]

theorem ev_extract {x : Operand} {i : Nat} {ds : List D} {d : D} (hx : Rep F w B (.tup ds) (a.eval x)) (hd : ds[i]? = some d) {o : Oper} (ho : o.op = .extract x i) : OutOK P F w B M a o (.val d) := by
  generalize hv : a.eval x = vx at hx
  cases hx with
  | tup _ vs h =>
    obtain ⟨v, h1, h2⟩ := h.get i hd
    refine ⟨v, ?_, h2⟩
    unfold execOp
    have h1' : vs.toArray[i]? = some v := by simpa using h1
    simp only [ho, hv, Instr.extract, h1', Sem.run_bind, Sem.run_pure, Result.andThen_ok]

theorem ev_makeFunc {f : Nat} {first cap : Array Operand} {ds : List D} (hg : GetOK F w B a get) (hf : first.toList.isEmpty = true) (hc : getAll get cap.toList = some ds) {o : Oper} (ho : o.op = .makeFunc (.func f) first cap) : OutOK P F w B M a o (.val (.fn f ds)) := by
  have h := hg.all _ _ hc
  refine ⟨_, ?_, .fn f _ _ h⟩
  have hf' : first = #[] := by
    apply Array.ext'
    simpa using hf
  subst hf'
  unfold execOp
  have : cap.map a.eval = (cap.toList.map a.eval).toArray := by apply Array.ext'; simp
  simp only [ho, Instr.makeFunc, Sem.run_bind, Sem.run_pure, Result.andThen_ok, this]
  simp

theorem run_callFunc {f : Nat} (hf : FOK P f) (args : Array Value) (w : World) : (callFunc f args).run P w = .ok (.enter f args) w := by
  obtain ⟨fn, h1, h2, h3⟩ := hf
  unfold callFunc
  simp only [Sem.run_bind, run_program, Result.andThen_ok, h1, h2, h3, Bool.false_eq_true, if_false, Sem.run_pure]

theorem ev_call (hb : Base F0 w0 B F M w) {L : Boxes} (hL : RowsIn M L) {c : Call} {f : Nat} {args : List D} {cs : List Bool} (hg : GetOK F w B a get) (he : evCall Γ L get c = some (.call f args, cs)) {o : Oper} (ho : o.op = .call c) : OutOK P F w B M a o (.call f args) := by
  unfold evCall at he
  split at he
  · rename_i f' ds' hc ha
    cases he
    have h := hg.all _ _ ha
    refine ⟨_, h.sealed hb hL, ?_⟩
    unfold execOp
    have hm : c.args.map a.eval = (c.args.toList.map a.eval).toArray := by apply Array.ext'; simp
    simp only [ho, resolve, hc, Act.eval, Deferred.ofValue, Sem.run_bind, Sem.run_pure, Result.andThen_ok, invoke, hm]
    simp only [List.append_toArray, List.nil_append, List.append_nil]
  · rename_i x ds' hnf hc ha
    split at he
    · rename_i f' caps hx
      cases he
      have h := hg.all _ _ ha
      have hr := hg _ _ hx
      generalize hv : a.eval x = vx at hr
      cases hr with
      | fn _ _ vs hcap =>
        refine ⟨_, (h.append hcap).sealed hb hL, ?_⟩
        unfold execOp
        have hm : c.args.map a.eval = (c.args.toList.map a.eval).toArray := by apply Array.ext'; simp
        simp only [ho, resolve, hc, hv, Deferred.ofValue, Sem.run_bind, Sem.run_pure, Result.andThen_ok, invoke, hm]
        simp only [List.append_toArray, List.nil_append]
    · cases he
  all_goals (first | (cases he; done) | ((repeat' (first | (cases he; done) | (simp only [Option.bind, Option.map] at he) | split at he))))

theorem ev_lenStr (hΓ : ΓOK P Γ) {c : Call} {t : Nat} {ti : TI} (ht : Γ t = some ti) (hk : ti.kind = .str) (hat : c.argTypes.toList = [t]) {l : List UInt8} (hc : c.callee = .builtin .len) (hg : GetOK F w B a get) (ha : getAll get c.args.toList = some [.str l]) {o : Oper} (ho : o.op = .call c) :
    OutOK P F w B M a o (.val (.val (.int .i64 l.length))) := by
  obtain ⟨_, de, _, _, hde, _, _, _, _, _, _, hkd⟩ := tiOf_spec (hΓ _ _ ht).1
  obtain rfl := kind_str (by rw [hkd]; exact hk)
  have h := hg.all _ _ ha
  have hm : c.args.map a.eval = (c.args.toList.map a.eval).toArray := by apply Array.ext'; simp
  generalize hvs : c.args.toList.map a.eval = vs at h hm
  cases h with
  | cons _ v _ vs' hd hs =>
    cases hs
    cases hd
    have hs : (⟨l.toArray⟩ : ByteArray).size = l.length := by show l.toArray.size = _; simp
    have hat' : c.argTypes = #[t] := by apply Array.ext'; simpa using hat
    refine ⟨_, ?_, .val _ rfl⟩
    unfold execOp
    simp only [ho, resolve, hc, hm, hat', Sem.run_bind, Sem.run_pure, Result.andThen_ok, invoke, builtin, Builtin.len_]
    simp [run_underlying hde, hs, goInt]

theorem ev_lenRecs (hΓ : ΓOK P Γ) {c : Call} {t : Nat} {ti : TI} (ht : Γ t = some ti) {es : Nat} {ea : Bool} (hk : ti.kind = .slice es ea) (hat : c.argTypes.toList = [t]) {α : Type} {dz : α} {enc : α → List D} {l : List α} (hc : c.callee = .builtin .len) (hg : GetOK F w B a get)
    (ha : getAll get c.args.toList = some [.recs dz enc l]) {o : Oper} (ho : o.op = .call c) : OutOK P F w B M a o (.val (.val (.int .i64 l.length))) := by
  obtain ⟨_, de, _, _, hde, _, _, _, _, _, _, hkd⟩ := tiOf_spec (hΓ _ _ ht).1
  obtain ⟨e, rfl, hse⟩ := kind_slice (by rw [hkd]; exact hk)
  have h := hg.all _ _ ha
  have hm : c.args.map a.eval = (c.args.toList.map a.eval).toArray := by apply Array.ext'; simp
  generalize hvs : c.args.toList.map a.eval = vs at h hm
  cases h with
  | cons _ v _ vs' hd hs =>
    cases hs
    have hat' : c.argTypes = #[t] := by apply Array.ext'; simpa using hat
    cases hd
    all_goals
      refine ⟨_, ?_, .val _ rfl⟩
      unfold execOp
      simp only [ho, resolve, hc, hm, hat', Sem.run_bind, Sem.run_pure, Result.andThen_ok, invoke, builtin, Builtin.len_]
      simp [run_underlying hde, goInt]

theorem ev_min {c : Call} {k k' : IntKind} {m n : Int} (hc : c.callee = .builtin .min) (hg : GetOK F w B a get) (ha : getAll get c.args.toList = some [.val (.int k m), .val (.int k' n)]) {o : Oper} (ho : o.op = .call c) :
    OutOK P F w B M a o (.val (.val (.int k (if n < m then n else m)))) := by
  have h := hg.all _ _ ha
  have hm : c.args.map a.eval = (c.args.toList.map a.eval).toArray := by apply Array.ext'; simp
  generalize hvs : c.args.toList.map a.eval = vs at h hm
  cases h with
  | cons _ v _ vs' hd hs =>
    cases hs with
    | cons _ v' _ vs'' hd' hs' =>
      cases hs'; cases hd; cases hd'
      refine ⟨_, ?_, .val _ rfl⟩
      unfold execOp
      simp only [ho, resolve, hc, hm, Sem.run_bind, Sem.run_pure, Result.andThen_ok, invoke, builtin, Builtin.min_, List.foldlM_cons, List.foldlM_nil, Builtin.min2]
theorem ev_max {c : Call} {k k' : IntKind} {m n : Int} (hc : c.callee = .builtin .max) (hg : GetOK F w B a get) (ha : getAll get c.args.toList = some [.val (.int k m), .val (.int k' n)]) {o : Oper} (ho : o.op = .call c) :
    OutOK P F w B M a o (.val (.val (.int k (if n > m then n else m)))) := by
  have h := hg.all _ _ ha
  have hm : c.args.map a.eval = (c.args.toList.map a.eval).toArray := by apply Array.ext'; simp
  generalize hvs : c.args.toList.map a.eval = vs at h hm
  cases h with
  | cons _ v _ vs' hd hs =>
    cases hs with
    | cons _ v' _ vs'' hd' hs' =>
      cases hs'; cases hd; cases hd'
      refine ⟨_, ?_, .val _ rfl⟩
      unfold execOp
      simp only [ho, resolve, hc, hm, Sem.run_bind, Sem.run_pure, Result.andThen_ok, invoke, builtin, Builtin.max_, List.foldlM_cons, List.foldlM_nil, Builtin.max2]
end
end Go.Proofs.Yteliiabopphgmaa.RX
