/-
  The rules of a walk over what is known of slots and boxes. Over any program.
-/
import Derived.Test.YteliiabopphgmaaRxSeq
namespace Go.Proofs.Yteliiabopphgmaa.RX
open Go.RowKit

/-- What is known of the frame and of the boxes. -/
def St {P : Program} (nt : Nat) (F0 : Fz) (w0 : Pt P) (K : List (Nat × D)) (L : Boxes) (a : Act) (w : World) : Prop :=
  ∃ B F, Base F0 w0 B F (memL L) w ∧ a.defers = [] ∧ a.tmps.size = nt ∧ ∀ x ∈ K, ∃ v, a.tmps[x.1]? = some v ∧ Rep F w B x.2 v
def Wp (P : Program) (nt : Nat) (F0 : Fz) (w0 : Pt P) (K : List (Nat × D)) (L : Boxes) (c : Code) (Q : Exit → Act → World → Prop) : Prop :=
  ∀ a w, St nt F0 w0 K L a w → c.wp P Q a w
def To {P : Program} (nt : Nat) (F0 : Fz) (w0 : Pt P) (K : List (Nat × D)) (L : Boxes) (e : Exit) (Q : Exit → Act → World → Prop) : Prop :=
  ∀ a w, St nt F0 w0 K L a w → Q e a w
def AllP : List Prop → Prop
  | [] => True
  | [p] => p
  | p :: ps => p ∧ AllP ps
theorem AllP.mem : ∀ {l : List Prop}, AllP l → ∀ p ∈ l, p
  | [], _, p, hp => by simp at hp
  | [q], h, p, hp => by rw [List.mem_singleton.1 hp]; exact h
  | q :: r :: l, h, p, hp => by
    rcases List.mem_cons.1 hp with rfl | hp
    · exact h.1
    · exact AllP.mem h.2 p hp

section
variable {P : Program} {Γ : Nat → Option TI} {nt : Nat} {F0 : Fz} {w0 : Pt P} {K K' : List (Nat × D)} {L L' : Boxes} {Q : Exit → Act → World → Prop}

theorem start_inv {ops : List Oper} {a : Act} {w : World} {B F} (hb : Base F0 w0 B F (memL L) w) (hd : a.defers = []) (hs : a.tmps.size = nt) (hK : ∀ x ∈ K, ∃ v, a.tmps[x.1]? = some v ∧ Rep F w B x.2 v) :
    InvR nt ops F0 w0 B F (startES K L) (fun j => j < 0) a w := by
  refine ⟨hb, hd, hs, fun e he => ?_, fun e he => ?_, fun e he => ?_, fun e he j hj => ?_⟩
  all_goals
    obtain ⟨x, hx, rfl⟩ := List.mem_map.1 he
  · exact ⟨fun _ => hK x hx, fun h => by simp [holds] at h⟩
  · simp
  · exact .inl rfl
  · simp at hj

theorem keepK_mem {K0 : List Ent} : ∀ {ts : List Nat} {r : List (Nat × D)}, keepK K0 ts = some r → ∀ x ∈ r, ∃ e ∈ K0, e.slot = x.1 ∧ e.d = x.2 ∧ e.cnd = []
  | [], r, h, x, hx => by cases h; simp at hx
  | t :: ts, r, h, x, hx => by
    unfold keepK at h
    split at h
    · rename_i e r' he hr
      split at h
      · rename_i hc
        cases h
        rcases List.mem_cons.1 hx with rfl | hx
        · obtain ⟨h1, h2⟩ := find_mem he
          exact ⟨e, h1, h2, rfl, by simpa using hc⟩
        · exact keepK_mem hr x hx
      · cases h
    · cases h
theorem keepL_mem {L0 : Boxes} : ∀ {ks : List Nat} {r : Boxes}, keepL L0 ks = some r → ∀ x ∈ r, x ∈ L0
  | [], r, h, x, hx => by cases h; simp at hx
  | k :: ks, r, h, x, hx => by
    unfold keepL at h
    split at h
    · rename_i y r' hy hr
      cases h
      rcases List.mem_cons.1 hx with rfl | hx
      · exact mem_of_lookup hy
      · exact keepL_mem hr x hx
    · cases h

theorem end_inv {ops : List Oper} {s : ES} {S : Nat → Prop} {a : Act} {w : World} {B F} {kk kl : List Nat} (hi : InvR nt ops F0 w0 B F s S a w) (hk : keepK s.K kk = some K') (hl : keepL s.L kl = some L') : St nt F0 w0 K' L' a w := by
  refine ⟨B, F, hi.base.sub (fun _ _ _ h => keepL_mem hl _ h), hi.defers, hi.size, fun x hx => ?_⟩
  obtain ⟨e, he, h1, h2, h3⟩ := keepK_mem hk x hx
  have := (hi.ents e he).1 (by rw [h3]; rfl)
  rw [h1, h2] at this
  exact this

/-- A region in the order of its text. -/
theorem Wp.region (hΓ : ΓOK P Γ) {id : Nat} {l : List Oper} (fz : List (Nat × List Nat)) (orc : List (Nat × D)) (orb : List (Nat × CBd)) (kk kl : List Nat) {ob : List Prop} (h : evRegion (CX P) (CallsB P) Γ nt orc orb l fz K L kk kl = some (K', L', ob)) (hob : AllP ob) (hn : To nt F0 w0 K' L' .normal Q) :
    Wp P nt F0 w0 K L (.region id l.toArray false) Q := by
  rintro a w ⟨B, F, hb, hd, hs, hK⟩
  unfold evRegion at h
  split at h
  · rename_i s hs'
    split at h
    · rename_i K1 L1 hk hl
      cases h
      refine wp_region_list ?_
      simp only [List.toList_toArray]
      exact evOps_sound hΓ l 0 (by simp) hs' (AllP.mem hob) (start_inv hb hd hs hK) fun B' F' a' w' hi => hn a' w' (end_inv hi hk hl)
    · cases h
  · cases h

theorem Wp.seq {x y : Code} (h : Wp P nt F0 w0 K L x (Exit.then (fun a w => y.wp P Q a w) Q)) : Wp P nt F0 w0 K L (.seq x y) Q := fun a w hs => wp_seq (h a w hs)
theorem Wp.block {id : Nat} {c : Code} (h : Wp P nt F0 w0 K L c (Exit.inBlock id Q)) : Wp P nt F0 w0 K L (.block id c) Q := fun a w hs => wp_block (h a w hs)
theorem Wp.skip (h : To nt F0 w0 K L .normal Q) : Wp P nt F0 w0 K L .skip Q := fun a w hs => wp_skip (h a w hs)
theorem Wp.ret (h : To nt F0 w0 K L .ret Q) : Wp P nt F0 w0 K L .ret Q := fun a w hs => wp_ret (h a w hs)
theorem Wp.exit {id : Nat} (h : To nt F0 w0 K L (.exit id) Q) : Wp P nt F0 w0 K L (.exit id) Q := fun a w hs => wp_exit (h a w hs)
theorem Wp.label {l : Nat} (h : To nt F0 w0 K L .normal Q) : Wp P nt F0 w0 K L (.label l) Q := fun a w hs => wp_label (h a w hs)
theorem Wp.cond {t : Nat} {x y : Code} {b : Bool} (hc : K.lookup t = some (.val (.bool b))) (h1 : b = true → Wp P nt F0 w0 K L x Q) (h2 : b = false → Wp P nt F0 w0 K L y Q) : Wp P nt F0 w0 K L (.cond (.tmp t) x y) Q := by
  intro a w hs
  obtain ⟨B, F, hb, hd, hsz, hK⟩ := hs
  obtain ⟨v, hv, hr⟩ := hK _ (mem_of_lookup hc)
  cases hr
  exact wp_cond_split (eval_tmp hv) (fun h => h1 h a w ⟨B, F, hb, hd, hsz, hK⟩) (fun h => h2 h a w ⟨B, F, hb, hd, hsz, hK⟩)
/-- Less may be said. -/
theorem Wp.sub {c : Code} (hK : ∀ x ∈ K', x ∈ K) (hL : ∀ x ∈ L', x ∈ L) (h : Wp P nt F0 w0 K' L' c Q) : Wp P nt F0 w0 K L c Q := by
  rintro a w ⟨B, F, hb, hd, hs, hk⟩
  exact h a w ⟨B, F, hb.sub (fun _ _ _ h => hL _ h), hd, hs, fun x hx => hk x (hK x hx)⟩
theorem To.sub {e : Exit} (hK : ∀ x ∈ K', x ∈ K) (hL : ∀ x ∈ L', x ∈ L) (h : To nt F0 w0 K' L' e Q) : To nt F0 w0 K L e Q := by
  rintro a w ⟨B, F, hb, hd, hs, hk⟩
  exact h a w ⟨B, F, hb.sub (fun _ _ _ h => hL _ h), hd, hs, fun x hx => hk x (hK x hx)⟩
/-- The same said otherwise. -/
theorem To.eq {e : Exit} (hK : K = K') (hL : L = L') (h : To nt F0 w0 K' L' e Q) : To nt F0 w0 K L e Q := by subst hK; subst hL; exact h

theorem To.thenN {y : Code} (h : Wp P nt F0 w0 K L y Q) : To nt F0 w0 K L .normal (Exit.then (fun a w => y.wp P Q a w) Q) := h
theorem To.thenR {N : Act → World → Prop} (h : To nt F0 w0 K L .ret Q) : To nt F0 w0 K L .ret (Exit.then N Q) := h
theorem To.thenX {N : Act → World → Prop} {id : Nat} (h : To nt F0 w0 K L (.exit id) Q) : To nt F0 w0 K L (.exit id) (Exit.then N Q) := h
theorem To.blockN {id : Nat} (h : To nt F0 w0 K L .normal Q) : To nt F0 w0 K L .normal (Exit.inBlock id Q) := h
theorem To.blockR {id : Nat} (h : To nt F0 w0 K L .ret Q) : To nt F0 w0 K L .ret (Exit.inBlock id Q) := h
theorem To.blockX {id : Nat} (h : To nt F0 w0 K L .normal Q) : To nt F0 w0 K L (.exit id) (Exit.inBlock id Q) := by
  intro a w hs; simp only [Exit.inBlock, if_true]; exact h a w hs
theorem To.blockO {id id' : Nat} (hne : id' ≠ id) (h : To nt F0 w0 K L (.exit id') Q) : To nt F0 w0 K L (.exit id') (Exit.inBlock id Q) := by
  intro a w hs; simp only [Exit.inBlock, if_neg hne]; exact h a w hs

/-- A loop, by rounds: what is known at its head is said of x; n bounds the rounds. -/
theorem Wp.loop {c : Code} {β : Type} (KI : β → List (Nat × D)) (LI : β → Boxes) (I : Nat → β → Prop) (n : Nat) (x : β) (h0 : I n x)
    (round : ∀ n x, I n x → Wp P nt F0 w0 (KI x) (LI x) c (Exit.then (fun a w => ∃ m y, m < n ∧ I m y ∧ St nt F0 w0 (KI y) (LI y) a w) Q)) : Wp P nt F0 w0 (KI x) (LI x) (.loop c) Q := by
  have key : ∀ n x, I n x → ∀ a w, St nt F0 w0 (KI x) (LI x) a w → ∀ (b : Frame) (k : List Item) (cs : List Frame),
      ∃ e a' w', Q e a' w' ∧ Arrives P (lone (b.at a (.code c :: .inLoop c :: k)) cs w) b k cs e a' w' := by
    intro n
    induction n using Nat.strongRecOn with
    | _ n ih =>
      intro x hI a w hs b k cs
      obtain ⟨e, a₁, w₁, hq, harr⟩ := round n x hI a w hs b (.inLoop c :: k) cs
      cases e with
      | normal =>
        obtain ⟨m, y, hlt, hIy, hsy⟩ := hq
        obtain ⟨e₂, a₂, w₂, hq₂, harr₂⟩ := ih m hlt y hIy a₁ w₁ hsy b k cs
        exact ⟨e₂, a₂, w₂, hq₂, .of_steps (Steps.trans harr (.one step_inLoop)) harr₂⟩
      | exit id => exact ⟨_, a₁, w₁, hq, .pass (x := .inLoop c) rfl (fun _ _ => .inl (by simp)) harr⟩
      | goto l => exact ⟨_, a₁, w₁, hq, .pass (x := .inLoop c) rfl (fun _ _ => .inl (by simp)) harr⟩
      | ret => exact ⟨_, a₁, w₁, hq, .pass (x := .inLoop c) rfl (fun _ _ => .inl (by simp)) harr⟩
      | panic ch => exact ⟨_, a₁, w₁, hq, .pass (x := .inLoop c) rfl (fun _ _ => .inl (by simp)) harr⟩
      | outgrown => exact ⟨_, a₁, w₁, hq, .pass (x := .inLoop c) rfl (fun _ _ => .inl (by simp)) harr⟩
  intro a w hs b k cs
  obtain ⟨e, a', w', hq, harr⟩ := key n x h0 a w hs b k cs
  exact ⟨e, a', w', hq, .of_steps (.one step_loop) harr⟩

/-- The end of a function. -/
def PostX (F0 : Fz) (w0 : World) (r : D) (e : Ending) (w' : World) : Prop := ∃ v, e = .returned v ∧ Rep (Fplus F0 w0 w') w' NB r v ∧ Below w0.heap.size w0 w'

def resRun (tmps : Array Value) : ResultVar → Sem Value
  | .tmp t => pure (tmps.getD t undef)
  | .cell t ty => do loadVar ty (← asAddr (tmps.getD t undef))
theorem results_eq (fn : Func) (tmps : Array Value) : results fn tmps = (do let vs ← fn.results.mapM (resRun tmps); pure (if h : vs.size = 1 then vs[0] else .tuple vs)) := by
  unfold results
  congr 2

theorem run_results {F : Fz} {w : World} {B : Env} {a : Act} (hΓ : ΓOK P Γ) (hb : Base F0 w0 B F (memL L) w) (hK : ∀ x ∈ K, ∃ v, a.tmps[x.1]? = some v ∧ Rep F w B x.2 v) : ∀ (rs : List ResultVar) (ds : List D), evResults Γ K L rs = some ds →
    ∃ vs, (rs.mapM (resRun a.tmps)).run P w = .ok vs w ∧ RepL F w B ds vs
  | [], ds, h => by cases h; exact ⟨[], rfl, .nil⟩
  | .tmp t :: rs, ds, h => by
    unfold evResults at h
    split at h
    · rename_i d ds' hd hds
      cases h
      obtain ⟨v, hv, hr⟩ := hK _ (mem_of_lookup hd)
      obtain ⟨vs, h1, h2⟩ := run_results hΓ hb hK rs ds' hds
      refine ⟨v :: vs, ?_, .cons _ _ _ _ hr h2⟩
      rw [List.mapM_cons]
      have hv' : a.tmps.getD t undef = v := by simp [Array.getD_eq_getD_getElem?, hv]
      simp only [Sem.run_bind, resRun, Sem.run_pure, Result.andThen_ok, hv']
      rw [h1]
      simp
    · cases h
  | .cell t ty :: rs, ds, h => by
    unfold evResults at h
    split at h
    · rename_i k off ti ds' hd hti hds
      split at h
      · rename_i ty' cs hl
        cases hp : partOf ti.agg ti.size off cs with
        | none => rw [hp] at h; cases h
        | some d =>
          rw [hp] at h
          cases h
          obtain ⟨v, hv, hr⟩ := hK _ (mem_of_lookup hd)
          cases hr with
          | own _ _ b hB =>
            obtain ⟨us, hru, hfl, hh, hn, hnf⟩ := hb.box' (mem_of_lookup hl) hB
            have hlen := RepL.length hru
            have hoff : off ≤ us.length := by
              unfold partOf at hp
              split at hp
              · split at hp
                · omega
                · cases hp
              · have := (List.getElem?_eq_some_iff.1 hp).1; omega
            obtain ⟨v', hrun, hrep⟩ := run_loadVar' (hΓ _ _ hti).1 hru hp (b := b) (o := 0) (fun j v hj => by rw [cell_block hh]; simpa using hj) hoff
            obtain ⟨vs, h1, h2⟩ := run_results hΓ hb hK rs ds' hds
            refine ⟨v' :: vs, ?_, .cons _ _ _ _ hrep h2⟩
            rw [List.mapM_cons]
            have hv' : a.tmps.getD t undef = .pointer (some ⟨b, off, none⟩) := by simp [Array.getD_eq_getD_getElem?, hv]
            simp only [Nat.zero_add] at hrun
            have hA : (asAddr (.pointer (some ⟨b, off, none⟩))).run P w = .ok ⟨b, off, none⟩ w := rfl
            simp only [Sem.run_bind, resRun, Sem.run_pure, Result.andThen_ok, hv', hA, hrun]
            rw [h1]
            simp
      · cases h
    · cases h

theorem To.done (hΓ : ΓOK P Γ) {fn : Func} {r : D} {w1 : World} {hsh : Shp P w1} (h : evRet Γ K L fn.results.toList = some r) : To nt F0 (.top w1 hsh) K L .ret (bodyPost P fn (PostX F0 w1 r)) := by
  rintro a w ⟨B, F, hb, hd, hs, hK⟩
  unfold evRet at h
  have hgrow : Grow F (Fplus F0 w1 w) w w := ⟨fun g k hF => (hb.more g k hF).imp id fun h => ⟨h.resolve_right id, hb.frz g k hF⟩, fun _ _ _ => rfl⟩
  have hL : RowsIn (memL L) L := fun _ _ _ _ _ _ _ h => mem_of_lookup h
  have hres : ∀ ds vs, (fn.results.toList.mapM (resRun a.tmps)).run P w = .ok vs w → RepL F w B ds vs →
      (results fn a.tmps).run P w = .ok (if h : vs.toArray.size = 1 then vs.toArray[0] else .tuple vs.toArray) w := by
    intro ds vs h1 h2
    rw [results_eq, Array.mapM_eq_mapM_toList]
    simp only [Sem.run_bind, Sem.run_map]
    rw [h1]
    simp only [Result.andThen_ok, Sem.run_pure]
  split at h
  · rename_i d hds
    obtain ⟨vs, h1, h2⟩ := run_results hΓ hb hK _ _ hds
    split at h
    · rename_i hno
      cases h
      have hrr := hres _ _ h1 h2
      cases h2 with
      | cons _ v _ vs' hdv hs' =>
        cases hs'
        refine ⟨hd, v, ?_, v, rfl, ((hdv.sealed hb hL).bare hno).grow hgrow, hb.below.below⟩
        rw [hrr]; rfl
    · cases h
  · rename_i ds hne hds
    obtain ⟨vs, h1, h2⟩ := run_results hΓ hb hK _ _ hds
    split at h
    · rename_i hno
      cases h
      have hrr := hres _ _ h1 h2
      have hlen := RepL.length h2
      refine ⟨hd, .tuple vs.toArray, ?_, _, rfl, (Rep.tup _ _ ((h2.sealed hb hL).bare hno)).grow hgrow, hb.below.below⟩
      rw [hrr, dif_neg]
      intro h9
      have : ds.length = 1 := by rw [← hlen]; simpa using h9
      match ds, this with
      | [d], _ => exact hne d rfl
    · cases h
  · cases h

/-- The end of a function to which boxes or rows were handed. -/
def evRetB (Γ : Nat → Option TI) (K : List (Nat × D)) (L : Boxes) (rs : List ResultVar) : Option D :=
  match evResults Γ K L rs with
  | some [d] => some (d.shut L)
  | some ds => some (.tup (D.seals L ds))
  | none => none
def PostB {P : Program} (F0 : Fz) (w0 : Pt P) (r : D) (Lout : Boxes) (e : Ending) (w' : World) : Prop := ∃ v F' B', e = .returned v ∧ Rep F' w' B' r v ∧ Base F0 w0 B' F' (memL Lout) w'
theorem To.doneB (hΓ : ΓOK P Γ) {fn : Func} {r : D} (kl : List Nat) {Lout : Boxes} (h : evRetB Γ K L fn.results.toList = some r) (hl : keepL L kl = some Lout) : To nt F0 w0 K L .ret (bodyPost P fn (PostB F0 w0 r Lout)) := by
  rintro a w ⟨B, F, hb, hd, hs, hK⟩
  unfold evRetB at h
  have hL : RowsIn (memL L) L := fun _ _ _ _ _ _ _ h => mem_of_lookup h
  have hbo : Base F0 w0 B F (memL Lout) w := hb.sub fun _ _ _ h => keepL_mem hl _ h
  have hres : ∀ ds vs, (fn.results.toList.mapM (resRun a.tmps)).run P w = .ok vs w → RepL F w B ds vs →
      (results fn a.tmps).run P w = .ok (if h : vs.toArray.size = 1 then vs.toArray[0] else .tuple vs.toArray) w := by
    intro ds vs h1 h2
    rw [results_eq, Array.mapM_eq_mapM_toList]
    simp only [Sem.run_bind, Sem.run_map]
    rw [h1]
    simp only [Result.andThen_ok, Sem.run_pure]
  split at h
  · rename_i d hds
    obtain ⟨vs, h1, h2⟩ := run_results hΓ hb hK _ _ hds
    cases h
    have hrr := hres _ _ h1 h2
    cases h2 with
    | cons _ v _ vs' hdv hs' =>
      cases hs'
      refine ⟨hd, v, ?_, v, F, B, rfl, hdv.sealed hb hL, hbo⟩
      rw [hrr]; rfl
  · rename_i ds hne hds
    obtain ⟨vs, h1, h2⟩ := run_results hΓ hb hK _ _ hds
    cases h
    have hrr := hres _ _ h1 h2
    have hlen := RepL.length h2
    refine ⟨hd, .tuple vs.toArray, ?_, _, F, B, rfl, Rep.tup _ _ (h2.sealed hb hL), hbo⟩
    rw [hrr, dif_neg]
    intro h9
    have : ds.length = 1 := by rw [← hlen]; simpa using h9
    match ds, this with
    | [d], _ => exact hne d rfl
  · cases h

/-- The end of a function that gives back an array, which lies in a row. -/
def evRetA (Γ : Nat → Option TI) (K : List (Nat × D)) (L : Boxes) (rs : List ResultVar) : Option (D × Bool) :=
  match rs with
  | [.cell t ty] =>
    match K.lookup t, Γ ty with
    | some (.elm k n z off), some ti =>
      match ti.kind, L.lookup k with
      | .array m es _, some (_, [.rowc _ d enc l]) => if (enc d).length = es ∧ z = es ∧ n = 0 ∧ off = 0 ∧ ti.size = m * es ∧ ti.agg = true then some (.arr d enc l, decide (l.length = m)) else none
      | _, _ => none
    | _, _ => none
  | _ => none
theorem run_resultA (hΓ : ΓOK P Γ) {fn : Func} {r : D} {c : Bool} {F : Fz} {w : World} {B : Env} {a : Act} (hb : Base F0 w0 B F (memL L) w) (hK : ∀ x ∈ K, ∃ v, a.tmps[x.1]? = some v ∧ Rep F w B x.2 v) (h : evRetA Γ K L fn.results.toList = some (r, c)) (hc : c = true) :
    ∃ v, (results fn a.tmps).run P w = .ok v w ∧ Rep F w NB r v := by
  unfold evRetA at h
  split at h
  rotate_left
  · cases h
  rename_i t ty hrs
  split at h
  rotate_left
  · cases h
  rename_i k n z off ti hk hti
  split at h
  rotate_left
  · cases h
  rename_i m es ea tt b α d enc l hkd hl
  split at h
  rotate_left
  · cases h
  rename_i hcond
  cases h
  have hlen : l.length = m := of_decide_eq_true hc
  obtain ⟨i, de, zz, hi, hd, hz, hz1, hz2, hz3, hsz, hag, hkk⟩ := tiOf_spec (hΓ _ _ hti).1
  obtain ⟨h1, rfl, rfl, rfl, h2, h3⟩ := hcond
  obtain ⟨v, hv, hr⟩ := hK _ (mem_of_lookup hk)
  obtain ⟨p, n0, cap, hB, hrow⟩ := hb.row' (mem_of_lookup hl)
  obtain ⟨hn0, hpos, hge, xs, hxs, hown, _⟩ := hrow
  cases hr with
  | elm _ _ _ _ g nn cap' hB' =>
    rw [hB] at hB'; cases hB'
    refine ⟨.agg xs.toArray, ?_, .arr _ _ _ xs ⟨hpos, hge⟩ hxs⟩
    have hxl : xs.length = ti.size := by rw [hown.1, hn0, hlen, h1, h2]
    have hv' : a.tmps.getD t undef = .pointer (some ⟨g, 0, none⟩) := by simp [Array.getD_eq_getD_getElem?, hv]
    have hA : (asAddr (.pointer (some ⟨g, 0, none⟩))).run P w = .ok ⟨g, 0, none⟩ w := rfl
    have hload := run_loadCells_list (P := P) w ⟨g, 0, none⟩ xs (fun j v hj => by
      rw [add_eq, Nat.zero_add]; exact hown.cells hj)
    rw [hxl] at hload
    rw [results_eq, Array.mapM_eq_mapM_toList, hrs]
    simp only [Sem.run_bind, Sem.run_map, List.mapM_cons, List.mapM_nil, resRun, hv', hA, Result.andThen_ok, loadVar, run_isAgg' hd, hag, h3, if_true, run_sizeOf' hi, hsz, hload, Sem.run_pure]
    simp [hload]
theorem To.doneA (hΓ : ΓOK P Γ) {fn : Func} {r : D} {c : Bool} {w1 : World} {hsh : Shp P w1} (h : evRetA Γ K L fn.results.toList = some (r, c)) (hc : c = true) : To nt F0 (.top w1 hsh) K L .ret (bodyPost P fn (PostX F0 w1 r)) := by
  rintro a w ⟨B, F, hb, hd, hs, hK⟩
  have hgrow : Grow F (Fplus F0 w1 w) w w := ⟨fun g k hF => (hb.more g k hF).imp id fun h => ⟨h.resolve_right id, hb.frz g k hF⟩, fun _ _ _ => rfl⟩
  obtain ⟨v, h1, h2⟩ := run_resultA hΓ hb hK h hc
  exact ⟨hd, v, h1, v, rfl, h2.grow hgrow, hb.below.below⟩
theorem To.doneAB (hΓ : ΓOK P Γ) {fn : Func} {r : D} {c : Bool} (kl : List Nat) {Lout : Boxes} (h : evRetA Γ K L fn.results.toList = some (r, c)) (hc : c = true) (hl : keepL L kl = some Lout) : To nt F0 w0 K L .ret (bodyPost P fn (PostB F0 w0 r Lout)) := by
  rintro a w ⟨B, F, hb, hd, hs, hK⟩
  have hbo : Base F0 w0 B F (memL Lout) w := hb.sub fun _ _ _ h => keepL_mem hl _ h
  obtain ⟨v, h1, h2⟩ := run_resultA hΓ hb hK h hc
  exact ⟨hd, v, h1, v, F, B, rfl, h2.lift fun _ => rfl, hbo⟩

/-- A function to which boxes or rows of its caller are handed. -/
theorem callsB_of {f : Nat} {fn : Func} {c : Code} {ds : List D} {Lin : Boxes} {r : D} {Lout : Boxes} (hf : P.funcs[f]? = some fn) (hbody : fn.body = some c) (hname : (fn.name == "runtime.NumGoroutine") = false) (hn : ds.length ≤ fn.ntmps)
    (h : ∀ (F0 : Fz) (w0 : Pt P), Wp P fn.ntmps F0 w0 (ds.zipIdx.map fun x => (x.2, x.1)) Lin c (bodyPost P fn (PostB F0 w0 r Lout))) : CallsB P f ds Lin r Lout := by
  refine ⟨⟨fn, hf, hname, by rw [hbody]; rfl⟩, fun F w1 B args hb hr => ?_⟩
  have hlen := RepL.length hr
  refine calls_of_wp hf hbody (h F w1 _ w1.w ⟨B, F, hb, rfl, ?_, fun x hx => ?_⟩)
  · simp; omega
  · obtain ⟨y, hy, rfl⟩ := List.mem_map.1 hx
    obtain ⟨d, i⟩ := y
    have hd : ds[i]? = some d := by
      have := List.mem_zipIdx_iff_getElem?.1 hy
      simpa using this
    obtain ⟨v, hv, hrep⟩ := hr.get i hd
    refine ⟨v, ?_, hrep⟩
    have hi : i < args.length := (List.getElem?_eq_some_iff.1 hv).1
    simp only
    rw [Array.getElem?_append_left (by simpa using hi)]
    simpa using hv

/-- A function without pointers to boxes of its caller. -/
theorem callsX_of {f : Nat} {fn : Func} {c : Code} {ds : List D} {r : D} (hf : P.funcs[f]? = some fn) (hbody : fn.body = some c) (hname : (fn.name == "runtime.NumGoroutine") = false) (hn : ds.length ≤ fn.ntmps)
    (h : ∀ (F0 : Fz) (w0 : World) (hsh : Shp P w0), Wp P fn.ntmps F0 (.top w0 hsh) (ds.zipIdx.map fun x => (x.2, x.1)) [] c (bodyPost P fn (PostX F0 w0 r))) : CallsX P f ds r := by
  refine ⟨⟨fn, hf, hname, by rw [hbody]; rfl⟩, fun F w args hsh hF hr => ?_⟩
  have hlen := RepL.length hr
  refine calls_of_wp hf hbody (h F w hsh _ w ⟨NB, F, ?_, rfl, ?_, fun x hx => ?_⟩)
  · exact ⟨(fun k t ds hl => by simp [memL] at hl), (fun k t ds b hl => by simp [memL] at hl), (fun i j b hi => by obtain ⟨t, ds, hx⟩ := hi; simp [memL] at hx), hF, fun g k h => .inl h, Grow.refl _ _, BelowS.refl _ _ _, fun k b h => by cases h⟩
  · simp; omega
  · obtain ⟨y, hy, rfl⟩ := List.mem_map.1 hx
    obtain ⟨d, i⟩ := y
    have hd : ds[i]? = some d := by
      have := List.mem_zipIdx_iff_getElem?.1 hy
      simpa using this
    obtain ⟨v, hv, hrep⟩ := hr.get i hd
    refine ⟨v, ?_, hrep⟩
    have hi : i < args.length := (List.getElem?_eq_some_iff.1 hv).1
    simp only
    rw [Array.getElem?_append_left (by simpa using hi)]
    simpa using hv
end
end Go.Proofs.Yteliiabopphgmaa.RX
