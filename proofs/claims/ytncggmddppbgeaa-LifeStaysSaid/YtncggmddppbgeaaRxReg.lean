/-
  What one operation does to what is known, whatever stands beside it; then a region in the order of its text. Over any program.
-/
import Derived.Test.YtncggmddppbgeaaRxStep
import Derived.Laws.CopyOwn
namespace Go.Proofs.Ytncggmddppbgeaa.RX
open Go.RowKit

def Fplus (F : Fz) (w w' : World) : Fz := fun g k => F g k ∨ (w.heap.size ≤ g ∧ g < w'.heap.size)
/-- Called with what reads as ds, the function returns what reads as r; nothing that was there has changed. -/
def CallsX (P : Program) (f : Nat) (ds : List D) (r : D) : Prop :=
  FOK P f ∧ ∀ (F : Fz) (w : World) (args : List Value), (∀ g k, F g k → g < w.heap.size) → RepL F w NB ds args →
    Calls P f args.toArray w fun e w' => ∃ v, e = .returned v ∧ Rep (Fplus F w w') w' NB r v ∧ Below w.heap.size w w'

section
variable {P : Program} {F0 : Fz} {w0 : World} {B : Nat → Option Nat} {F : Fz} {M : Mem} {w : World} {a : Act} {Q : Exit → Act → World → Prop}

def setB (B : Nat → Option Nat) (t b : Nat) : Nat → Option Nat := fun i => if i = t then some b else B i
theorem setB_self (B : Nat → Option Nat) (t b : Nat) : setB B t b t = some b := by simp [setB]
theorem setB_ne (B : Nat → Option Nat) (t b : Nat) (i : Nat) (h : i ≠ t) : setB B t b i = B i := by simp [setB, h]

theorem Base.callee (hb : Base F0 w0 B F M w) {w' : World} (h : Below w.heap.size w w') : Base F0 w0 B (Fplus F w w') M w' ∧ Grow F (Fplus F w w') w w' := by
  have hg : Grow F (Fplus F w w') w w' := ⟨fun g k hF => .inl hF, fun g k hF => h.cell (p := ⟨g, k, none⟩) (hb.frz g k hF)⟩
  refine ⟨⟨fun k t ds hl => ?_, hb.inj, fun g k hF => ?_, fun g k hF => ?_, fun g k hF => .inl (hb.old g k hF), hb.below.trans (h.mono hb.below.size)⟩, hg⟩
  · obtain ⟨b, vs, hB, hr, hfl, hh, hn, hnf⟩ := hb.boxes _ _ _ hl
    have hlt : b < w.heap.size := (Array.getElem?_eq_some_iff.1 hh).1
    refine ⟨b, vs, hB, hr.grow hg, hfl, by rw [h.block b hlt]; exact hh, hn, fun j hj => ?_⟩
    rcases hj with hj | ⟨hj, _⟩
    · exact hnf j hj
    · omega
  · rcases hF with hF | ⟨_, hF⟩
    · have := hb.frz g k hF; have := h.size; omega
    · exact hF
  · rcases hF with hF | ⟨hF, _⟩
    · exact hb.more g k hF
    · have := hb.below.size; exact .inr (by omega)

theorem Base.draw (hb : Base F0 w0 B F M w) : Base F0 w0 B F M w.drew := by
  have hg : Grow F F w w.drew := ⟨fun _ _ h => h, fun _ _ _ => rfl⟩
  refine ⟨fun k t ds hl => ?_, hb.inj, hb.frz, hb.more, hb.old, hb.below.drew⟩
  obtain ⟨b, vs, hB, hr, hfl, hh, hn, hnf⟩ := hb.boxes _ _ _ hl
  exact ⟨b, vs, hB, hr.grow hg, hfl, hh, hn, hnf⟩

/-- What a new box adds. -/
def memBox (t ty : Nat) (cells : List D) (M : Mem) : Mem := fun k t' ds => (k = t ∧ t' = ty ∧ ds = cells) ∨ M k t' ds
def memStore (k off : Nat) (cells : List D) (M : Mem) : Mem := fun j t ds => ∃ es, M j t es ∧ ds = if j = k then setCells es off cells else es

theorem Base.box (hb : Base F0 w0 B F M w) {t ty : Nat} {cells : List D} {vs : List Value} (hr : RepL F w B cells vs) (hfl : cells.all D.flat = true) {B' : Nat → Option Nat} (hB' : B' t = some w.heap.size) {M' : Mem}
    (hcells : ∀ F w vs, RepL F w B cells vs → RepL F w B' cells vs)
    (hM : ∀ k t' ds, M' k t' ds → M k t' ds ∧ k ≠ t ∧ B' k = B k ∧ ∀ F w vs, RepL F w B ds vs → RepL F w B' ds vs) :
    Base F0 w0 B' F (memBox t ty cells M') (w.alloc (.cells vs.toArray ty)) ∧ Grow F F w (w.alloc (.cells vs.toArray ty)) := by
  have hg : Grow F F w (w.alloc (.cells vs.toArray ty)) := ⟨fun _ _ h => h, fun g k hF => World.cell?_alloc_lt _ _ _ (hb.frz g k hF)⟩
  have hsz := hb.below.size
  have hold : ∀ k t' ds, M' k t' ds → ∃ b us, B' k = some b ∧ RepL F (w.alloc (.cells vs.toArray ty)) B' ds us ∧ ds.all D.flat = true ∧ w.heap[b]? = some (.cells us.toArray t' (0, 0)) ∧ w0.heap.size ≤ b ∧ (∀ j, ¬ F b j) ∧ b < w.heap.size := by
    intro k t' ds h
    obtain ⟨h1, h2, h3, h4⟩ := hM _ _ _ h
    obtain ⟨b, us, hB, hr', hfl', hh, hn', hnf⟩ := hb.boxes _ _ _ h1
    exact ⟨b, us, by rw [h3]; exact hB, (h4 _ _ _ hr').grow hg, hfl', hh, hn', hnf, (Array.getElem?_eq_some_iff.1 hh).1⟩
  refine ⟨⟨fun k t' ds hl => ?_, fun i j b hi hj hBi hBj => ?_, fun g k hF => ?_, hb.more, hb.old, hb.below.alloc hsz _⟩, hg⟩
  · rcases hl with ⟨rfl, rfl, rfl⟩ | h
    · refine ⟨w.heap.size, vs, hB', (hcells _ _ _ hr).grow hg, hfl, ?_, hsz, fun j hj => ?_⟩
      · show (w.heap.push _)[w.heap.size]? = _
        simp
      · have := hb.frz _ _ hj; omega
    · obtain ⟨b, us, hB, hr', hfl', hh, hn', hnf, hlt⟩ := hold _ _ _ h
      refine ⟨b, us, hB, hr', hfl', ?_, hn', hnf⟩
      rw [Below.heap_alloc _ _ _ hlt]; exact hh
  · have key : ∀ i b, (∃ t' ds, memBox t ty cells M' i t' ds) → B' i = some b → (i = t ∧ b = w.heap.size) ∨ (i ≠ t ∧ b < w.heap.size ∧ ∃ t' ds, M i t' ds ∧ B i = some b) := by
      rintro i b ⟨t', ds, h⟩ hBi
      rcases h with ⟨rfl, _, _⟩ | h
      · rw [hB'] at hBi; cases hBi; exact .inl ⟨rfl, rfl⟩
      · obtain ⟨b', us, hB, _, _, _, _, _, hlt⟩ := hold _ _ _ h
        obtain ⟨h1, h2, h3, _⟩ := hM _ _ _ h
        rw [hB] at hBi; cases hBi
        exact .inr ⟨h2, hlt, t', ds, h1, by rw [← h3]; exact hB⟩
    rcases key i b hi hBi with ⟨h1, h2⟩ | ⟨h1, h2, t1, d1, h3, h4⟩
    · rcases key j b hj hBj with ⟨h1', _⟩ | ⟨_, h2', _⟩
      · rw [h1, h1']
      · omega
    · rcases key j b hj hBj with ⟨_, h2'⟩ | ⟨_, _, t2, d2, h3', h4'⟩
      · omega
      · exact hb.inj i j b ⟨t1, d1, h3⟩ ⟨t2, d2, h3'⟩ h4 h4'
  · have := hb.frz g k hF; simp; omega

theorem Base.store (hb : Base F0 w0 B F M w) {k off b t : Nat} {cells ds : List D} {vs us : List Value} (hB : B k = some b) (hkL : M k t ds) (hh : w.heap[b]? = some (.cells vs.toArray t (0, 0)))
    (hu : RepL F w B cells us) (hfl : cells.all D.flat = true) :
    Base F0 w0 B F (memStore k off cells M) (w.setRow b (setVals vs off us).toArray) ∧ Grow F F w (w.setRow b (setVals vs off us).toArray) := by
  obtain ⟨b', vs', hB', hr', hfl', hh', hn', hnf'⟩ := hb.boxes _ _ _ hkL
  rw [hB] at hB'; cases hB'
  have hg : Grow F F w (w.setRow b (setVals vs off us).toArray) := ⟨fun _ _ h => h, fun g j hF => cell_setRow_other _ _ _ _ (fun e => by simp only at e; subst e; exact hnf' j hF)⟩
  refine ⟨⟨fun j t' es hl => ?_, fun i j c hi hj hBi hBj => ?_, fun g j hF => ?_, hb.more, hb.old, below_setRow hb.below hn' _⟩, hg⟩
  · obtain ⟨y, hy, hx⟩ := hl
    obtain ⟨c, zs, hBc, hrc, hflc, hhc, hnc, hnfc⟩ := hb.boxes _ _ _ hy
    by_cases hjk : j = k
    · subst hjk
      rw [hB] at hBc; cases hBc
      rw [hh] at hhc
      simp only [Option.some.injEq, Obj.cells.injEq] at hhc
      obtain ⟨hv, ht, _⟩ := hhc
      have hv' : vs = zs := by simpa using hv
      subst hv'
      simp only [if_true] at hx
      subst hx
      refine ⟨b, setVals vs off us, hB, (RepL.sets hu off hrc).grow hg, ?_, ?_, hnc, hnfc⟩
      · unfold setCells
        simp only [List.all_append, Bool.and_eq_true]
        exact ⟨⟨List.all_eq_true.2 fun x hx => List.all_eq_true.1 hflc x (List.mem_of_mem_take hx), hfl⟩, List.all_eq_true.2 fun x hx => List.all_eq_true.1 hflc x (List.mem_of_mem_drop hx)⟩
      · rw [setRow_heap _ _ _ _ _ _ hh, ht]
    · simp only [hjk, if_false] at hx
      subst hx
      have hne : c ≠ b := fun e => hjk (hb.inj j k b ⟨_, _, hy⟩ ⟨_, _, hkL⟩ (e ▸ hBc) hB)
      exact ⟨c, zs, hBc, hrc.grow hg, hflc, by rw [setRow_other _ _ _ _ hne]; exact hhc, hnc, hnfc⟩
  · obtain ⟨t1, d1, x, hx, _⟩ := hi
    obtain ⟨t2, d2, y, hy, _⟩ := hj
    exact hb.inj i j c ⟨_, _, hx⟩ ⟨_, _, hy⟩ hBi hBj
  · have := hb.frz g j hF; simp; omega

/-! ### one operation, whatever stands beside it -/

theorem wp_val {o : Oper} {d : D} {K : Act → World → Prop} (h : OutOK P F w B M a o (.val d)) (hK : ∀ v, Rep F w B d v → K (a.put o.dst v) w) : o.wp P a w K Q := by
  obtain ⟨v, hrun, hr⟩ := h
  unfold Oper.wp
  rw [hrun]
  exact hK v hr

theorem wp_call {o : Oper} {f : Nat} {args : List D} {r : D} {K : Act → World → Prop} (h : OutOK P F w B M a o (.call f args)) (hb : Base F0 w0 B F M w) (hn : D.noOwns args = true) (hc : CallsX P f args r)
    (hK : ∀ v w' F', Base F0 w0 B F' M w' → Grow F F' w w' → Rep F' w' B r v → K (a.put o.dst v) w') : o.wp P a w K Q := by
  obtain ⟨vs, hr, hrun⟩ := h
  obtain ⟨hf, hcalls⟩ := hc
  unfold Oper.wp
  rw [hrun hf]
  refine (hcalls F w vs hb.frz (hr.bare hn)).mono ?_
  rintro e w' ⟨v, rfl, hrep, hbel⟩
  obtain ⟨h1, h2⟩ := hb.callee hbel
  exact hK v w' _ h1 h2 (hrep.lift fun _ => rfl)

theorem wp_box {o : Oper} {t ty : Nat} {cells : List D} {K : Act → World → Prop} (h : OutOK P F w B M a o (.box ty cells)) (hb : Base F0 w0 B F M w) (hfl : cells.all D.flat = true) {B' : Nat → Option Nat} (hB' : B' t = some w.heap.size) {M' : Mem}
    (hcells : ∀ F w vs, RepL F w B cells vs → RepL F w B' cells vs)
    (hM : ∀ k t' ds, M' k t' ds → M k t' ds ∧ k ≠ t ∧ B' k = B k ∧ ∀ F w vs, RepL F w B ds vs → RepL F w B' ds vs)
    (hK : ∀ w', Base F0 w0 B' F (memBox t ty cells M') w' → Grow F F w w' → K (a.put o.dst (.pointer (some ⟨w.heap.size, 0, none⟩))) w') : o.wp P a w K Q := by
  obtain ⟨vs, hr, hrun⟩ := h
  unfold Oper.wp
  rw [hrun]
  obtain ⟨h1, h2⟩ := hb.box hr hfl hB' hcells hM
  exact hK _ h1 h2

theorem wp_store {o : Oper} {k off : Nat} {cells : List D} {K : Act → World → Prop} (h : OutOK P F w B M a o (.store k off cells)) (hb : Base F0 w0 B F M w) (hfl : cells.all D.flat = true)
    (hK : ∀ w', Base F0 w0 B F (memStore k off cells M) w' → Grow F F w w' → K (a.put o.dst undef) w') : o.wp P a w K Q := by
  obtain ⟨b, t, ds, vs, us, hB, hl, hr, hh, hu, hlen, hrun⟩ := h
  unfold Oper.wp
  rw [hrun hfl]
  obtain ⟨h1, h2⟩ := hb.store (off := off) hB hl hh hu hfl
  exact hK _ h1 h2

theorem Base.sub {M' : Mem} (hb : Base F0 w0 B F M w) (h : ∀ k t ds, M' k t ds → M k t ds) : Base F0 w0 B F M' w :=
  ⟨fun k t ds hl => hb.boxes k t ds (h _ _ _ hl), fun i j b hi hj => hb.inj i j b (hi.imp fun _ h1 => h1.imp fun _ hx => h _ _ _ hx) (hj.imp fun _ h1 => h1.imp fun _ hx => h _ _ _ hx), hb.frz, hb.more, hb.old, hb.below⟩

theorem memL_store {k off : Nat} {cells : List D} {L : Boxes} {j t : Nat} {ds : List D} (h : memL (storeBox k off cells L) j t ds) : memStore k off cells (memL L) j t ds := by
  unfold memL storeBox at h
  obtain ⟨y, hy, he⟩ := List.mem_map.1 h
  obtain ⟨j', y1, y2⟩ := y
  simp only at he
  split at he
  · cases he; exact ⟨y2, hy, by simp [*]⟩
  · cases he; exact ⟨_, hy, by simp [*]⟩

/-! ### the region in the order of its text -/

def EntOK (F : Fz) (w : World) (B : Nat → Option Nat) (tab : List (Nat × Bool)) (a : Act) (e : Ent) : Prop :=
  (holds tab e.cnd = true → ∃ v, a.tmps[e.slot]? = some v ∧ Rep F w B e.d v) ∧ (holds tab e.cnd = false → a.tmps[e.slot]? = some undef)

theorem EntOK.grow {F' : Fz} {w' : World} {tab} {e : Ent} (h : EntOK F w B tab a e) (g : Grow F F' w w') : EntOK F' w' B tab a e :=
  ⟨fun hh => let ⟨v, h1, h2⟩ := h.1 hh; ⟨v, h1, h2.grow g⟩, h.2⟩

structure InvR (nt : Nat) (ops : List Oper) (F0 : Fz) (w0 : World) (B : Nat → Option Nat) (F : Fz) (s : ES) (i : Nat) (a : Act) (w : World) : Prop where
  base : Base F0 w0 B F (memL s.L) w
  defers : a.defers = []
  size : a.tmps.size = nt
  ents : ∀ e ∈ s.K, EntOK F w B s.tab a e
  keys : ∀ e ∈ s.K, ∀ x ∈ e.cnd, x.1 < i
  srcs : ∀ e ∈ s.K, e.src ≤ i
  dsts : ∀ e ∈ s.K, ∀ j, e.src = j + 1 → ((ops[j]?).bind (·.dst)) = some e.slot ∧ ∀ b, e.d = .val (.bool b) → tv s.tab j = b

theorem tv_cons {tab : List (Nat × Bool)} {i j : Nat} {b : Bool} (h : j ≠ i) : tv ((i, b) :: tab) j = tv tab j := by
  unfold tv
  rw [List.lookup_cons]
  have : (j == i) = false := by simpa using h
  simp [this]
theorem tv_self {tab : List (Nat × Bool)} {i : Nat} {b : Bool} : tv ((i, b) :: tab) i = b := by simp [tv]
theorem holds_cons (tab : List (Nat × Bool)) (x : Nat × Bool) (c : Cnd) : holds tab (x :: c) = ((tv tab x.1 == x.2) && holds tab c) := by
  cases c with
  | nil => simp [holds]
  | cons y c => rfl
theorem holds_congr {tab tab' : List (Nat × Bool)} : ∀ {c : Cnd}, (∀ x ∈ c, tv tab' x.1 = tv tab x.1) → holds tab' c = holds tab c
  | [], _ => rfl
  | x :: c, h => by
    rw [holds_cons, holds_cons, h x (by simp), holds_congr (fun y hy => h y (by simp [hy]))]
theorem holds_all {tab : List (Nat × Bool)} : ∀ {c : Cnd}, holds tab c = true ↔ ∀ x ∈ c, tv tab x.1 = x.2
  | [] => by simp [holds]
  | x :: c => by
    rw [holds_cons, Bool.and_eq_true, holds_all]
    simp
theorem holds_le {tab : List (Nat × Bool)} {c c' : Cnd} (h : c.le c' = true) (h' : holds tab c' = true) : holds tab c = true := by
  rw [holds_all] at *
  intro x hx
  unfold Cnd.le at h
  have := List.all_eq_true.1 h x hx
  obtain ⟨y, hy, he⟩ := List.any_eq_true.1 this
  simp only [Bool.and_eq_true, beq_iff_eq] at he
  rw [he.1, he.2]
  exact h' y hy
theorem addTab_tv {i j : Nat} {d : D} {tab} (h : j ≠ i) : tv (addTab i d tab) j = tv tab j := by
  unfold addTab; split
  · exact tv_cons h
  · rfl
theorem addTab_self {i : Nat} {b : Bool} {tab} : tv (addTab i (.val (.bool b)) tab) i = b := by simp [addTab, tv_self]

theorem mem_putEnt {e x : Ent} {K : List Ent} (h : x ∈ putEnt e K) : x = e ∨ (x ∈ K ∧ x.slot ≠ e.slot) := by
  unfold putEnt at h
  rcases List.mem_cons.1 h with h | h
  · exact .inl h
  · obtain ⟨h1, h2⟩ := List.mem_filter.1 h
    exact .inr ⟨h1, by simpa using h2⟩

theorem put_same {a : Act} {t : Nat} {v : Value} (h : t < a.tmps.size) : (a.put (some t) v).tmps[t]? = some v := by
  simp [Act.put, h]
theorem put_other {a : Act} {t u : Nat} {v : Value} (h : u ≠ t) : (a.put (some t) v).tmps[u]? = a.tmps[u]? := by
  simp only [Act.put]
  rw [Array.getElem?_setIfInBounds_ne (by omega)]
theorem put_size {a : Act} {t : Option Nat} {v : Value} : (a.put t v).tmps.size = a.tmps.size := by cases t <;> simp [Act.put]
theorem put_defers {a : Act} {t : Option Nat} {v : Value} : (a.put t v).defers = a.defers := by cases t <;> rfl

theorem find_mem {K : List Ent} {t : Nat} {e : Ent} (h : findSlot K t = some e) : e ∈ K ∧ e.slot = t := by
  unfold findSlot at h
  exact ⟨List.mem_of_find?_eq_some h, by simpa using List.find?_some h⟩

theorem eval_tmp {a : Act} {t : Nat} {v : Value} (h : a.tmps[t]? = some v) : a.eval (.tmp t) = v := by
  simp [Act.eval, Array.getD_eq_getD_getElem?, h]

theorem getOp_ok {tab} {K : List Ent} (hE : ∀ e ∈ K, EntOK F w B tab a e) {g : Cnd} (hg : holds tab g = true) : GetOK F w B a (getOp K g) := by
  intro x d h
  cases x with
  | tmp t =>
    simp only [getOp] at h
    split at h
    · rename_i e he
      split at h
      · rename_i hle
        cases h
        obtain ⟨hm, rfl⟩ := find_mem he
        obtain ⟨v, h1, h2⟩ := (hE e hm).1 (holds_le hle hg)
        rw [eval_tmp h1]; exact h2
      · cases h
    · cases h
  | const v =>
    simp only [getOp] at h
    split at h
    · cases h; exact Rep.ofValue v (by assumption)
    · cases h
  | global g => simp [getOp] at h
  | func f =>
    simp only [getOp] at h
    cases h
    exact .fn f [] [] .nil

theorem guard_ok {nt : Nat} {ops : List Oper} {s : ES} {i : Nat} {g : Cnd} {gd : Option (Nat × Bool)} (hi : InvR nt ops F0 w0 B F s i a w) (h : guardCnd ops s.K gd = some g) {o : Oper} (ho : o.guard = gd) :
    Region.wanted o (yielded ops.toArray a.tmps) = holds s.tab g ∧ ∀ x ∈ g, x.1 < i := by
  unfold guardCnd at h
  split at h
  · cases h
    exact ⟨by simp [Region.wanted, ho, holds], by simp⟩
  · rename_i j want
    split at h
    · cases h
    · rename_i t ht
      split at h
      · cases h
      · rename_i e he
        split at h
        · rename_i hsrc
          obtain ⟨hm, hslot⟩ := find_mem he
          obtain ⟨hd1, hd2⟩ := hi.dsts e hm j hsrc
          split at h
          · rename_i b hb
            cases h
            refine ⟨?_, fun x hx => ?_⟩
            · rw [holds_cons]
              simp only [Region.wanted, ho]
              have hy : yielded ops.toArray a.tmps j = match a.tmps[t]? with | some (.bool b) => some b | _ => none := by
                unfold yielded
                simp only [List.getElem?_toArray, ht]
                rfl
              rw [hd2 b hb]
              cases hc : holds s.tab e.cnd with
              | true =>
                obtain ⟨v, h1, h2⟩ := (hi.ents e hm).1 hc
                rw [hb] at h2; cases h2
                rw [hy, ← hslot, h1]
                cases b <;> cases want <;> rfl
              | false =>
                have h1 := (hi.ents e hm).2 hc
                rw [hy, ← hslot, h1]
                simp [undef]
            · rcases List.mem_cons.1 hx with rfl | hx
              · have := hi.srcs e hm; simp only; omega
              · exact hi.keys e hm x hx
          · cases h
        · cases h
end
end Go.Proofs.Ytncggmddppbgeaa.RX
