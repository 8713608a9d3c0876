/-
  Chapter 13: parts as texts; a text's parts are in form; the text of parts is read as these.
-/
import Derived.Test.YtljnmojkhajolaaDoorP13B
namespace Go.Proofs.YtljnmojkhajolaaDoor.M
open Go Go.Proofs.YtljnmojkhajolaaDoor.RX Go.Proofs.YtljnmojkhajolaaDoor.PL

def escS (t : BS) : BS := t.flatMap (PL.sub 36 [36, 36])
def mkS (op : Int) : BS := marks[op.toNat]?.getD []
/-- Parts as a text, to a depth. -/
def T : Nat → List TP → BS
  | 0, _ => []
  | d + 1, l => l.flatMap fun p => if p.f_Op = 0 then escS p.f_Text else [36, 123] ++ p.f_Name ++ mkS p.f_Op ++ T d p.f_Sub ++ [125]
/-- Words side by side are one part. -/
def N : BS → List TP → List TP
  | w, [] => fl w
  | w, p :: l => if p.f_Op = 0 then N (w ++ p.f_Text) l else fl w ++ p :: N [] l
inductive V : Nat → List TP → Prop
  | nil (d : Nat) : V d []
  | text (d : Nat) (t : BS) (l : List TP) (ht : t ≠ []) (hc : 1 < d → (125 : UInt8) ∉ t) (h : V d l) : V d (S_tmpl_Part.mk [] t 0 [] :: l)
  | var1 (d : Nat) (nm : BS) (l : List TP) (hd : d ≤ 8) (hv : varB nm = true) (hw : ∀ c ∈ nm, wordB c = true) (h : V d l) : V d (S_tmpl_Part.mk nm [] 1 [] :: l)
  | var (d : Nat) (nm : BS) (op : Nat) (sb l : List TP) (hd : d ≤ 8) (hv : varB nm = true) (hw : ∀ c ∈ nm, wordB c = true) (h2 : 2 ≤ op) (h7 : op ≤ 7) (hs : V (d + 1) sb) (hn : N [] sb = sb) (h : V d l) : V d (S_tmpl_Part.mk nm [] (op : Int) sb :: l)

theorem N_text (w t : BS) (l : List TP) : N w (S_tmpl_Part.mk [] t 0 [] :: l) = N (w ++ t) l := by rw [N, if_pos rfl]
theorem N_var (w : BS) (p : TP) (l : List TP) (h : p.f_Op ≠ 0) : N w (p :: l) = fl w ++ p :: N [] l := by rw [N, if_neg h]
theorem N_fl (v w : BS) (l : List TP) : N v (fl w ++ l) = N (v ++ w) l := by
  unfold fl
  by_cases h : w = []
  · subst h; simp
  · rw [if_neg h, List.singleton_append, N_text]
theorem N_N : ∀ (k : List TP) (v w : BS), N v (N w k) = N (v ++ w) k
  | [], v, w => by
    have := N_fl v w []
    rw [List.append_nil] at this
    rw [show N w [] = fl w from rfl, this]
  | p :: k, v, w => by
    by_cases h : p.f_Op = 0
    · rw [N, if_pos h, N, if_pos h, N_N k, List.append_assoc]
    · rw [N_var w p k h, N_var _ p k h, N_fl, N_var _ p _ h, N_N k]; rfl
theorem V_fl {d : Nat} {w : BS} {l : List TP} (hw : 1 < d → (125 : UInt8) ∉ w) (h : V d l) : V d (fl w ++ l) := by
  unfold fl
  by_cases e : w = []
  · rw [if_pos e]; exact h
  · rw [if_neg e]; exact .text d w l e hw h
theorem V_N {d : Nat} {k : List TP} (h : V d k) : ∀ w : BS, (1 < d → (125 : UInt8) ∉ w) → V d (N w k) := by
  induction h with
  | nil d => intro w hw; have := V_fl hw (.nil d); rwa [List.append_nil] at this
  | text d t l ht hc h ih =>
    intro w hw
    rw [N_text]
    exact ih _ fun h1 hm => by rcases List.mem_append.1 hm with h2 | h2; exact hw h1 h2; exact hc h1 h2
  | var1 d nm l hd hv hwd h ih =>
    intro w hw
    rw [N_var _ _ _ (by show ¬ (1 : Int) = 0; decide)]
    exact V_fl hw (.var1 d nm _ hd hv hwd (ih [] (by simp)))
  | var d nm op sb l hd hv hwd h2 h7 hs hn h ihs ih =>
    intro w hw
    rw [N_var _ _ _ (by show (op : Int) ≠ 0; omega)]
    exact V_fl hw (.var d nm op sb _ hd hv hwd h2 h7 hs hn (ih [] (by simp)))
theorem V_app {d : Nat} {k l : List TP} (h : V d k) (hl : V d l) : V d (k ++ l) := by
  induction h with
  | nil d => exact hl
  | text d t l' ht hc h ih => exact .text d t _ ht hc (ih hl)
  | var1 d nm l' hd hv hwd h ih => exact .var1 d nm _ hd hv hwd (ih hl)
  | var d nm op sb l' hd hv hwd h2 h7 hs hn h ihs ih => exact .var d nm op sb _ hd hv hwd h2 h7 hs hn (ih hl)
theorem nm_word (r : BS) : ∀ c ∈ nmOf r, wordB c = true := fun c hc => by
  have := List.all_takeWhile (p := wordB) (l := r)
  exact List.all_eq_true.1 this c hc
/-- What comes of a text is in form. -/
theorem Ps_V {d : Nat} {r w : BS} {l : List TP} {r' : BS} (h : Ps d r w l r') : 1 ≤ d → ∃ k, V d k ∧ l = N w k := by
  induction h with
  | done d r w h => intro _; exact ⟨[], .nil d, rfl⟩
  | char d c r w l r' h1 h2 h ih =>
    intro hd
    obtain ⟨k, k1, k2⟩ := ih hd
    exact ⟨S_tmpl_Part.mk [] [c] 0 [] :: k, .text d [c] k (by simp) (fun h3 hm => h2 ⟨h3, (List.mem_singleton.1 hm).symm⟩) k1, by rw [N_text]; exact k2⟩
  | dollar d r w l r' h ih =>
    intro hd
    obtain ⟨k, k1, k2⟩ := ih hd
    exact ⟨S_tmpl_Part.mk [] [36] 0 [] :: k, .text d [36] k (by simp) (fun _ => by decide) k1, by rw [N_text]; exact k2⟩
  | plain d r w l r' hd8 h0 h1 hv h ih =>
    intro hd
    obtain ⟨k, k1, k2⟩ := ih hd
    exact ⟨_ :: k, .var1 d (nmOf r) k hd8 hv (nm_word r) k1, by rw [N_var _ _ _ (by show ¬ (1 : Int) = 0; decide), k2]⟩
  | one d r w r1 l r' hd8 hv he h ih =>
    intro hd
    obtain ⟨k, k1, k2⟩ := ih hd
    exact ⟨_ :: k, .var1 d (nmOf r) k hd8 hv (nm_word r) k1, by rw [N_var _ _ _ (by show ¬ (1 : Int) = 0; decide), k2]⟩
  | sub d r w sb r1 l r' hd8 hv hm hs h ihs ih =>
    intro hd
    obtain ⟨k, k1, k2⟩ := ih hd
    obtain ⟨ks, s1, s2⟩ := ihs (by omega)
    obtain ⟨m1, m2, m3, m4, m5⟩ := mk_len (afOf r)
    refine ⟨_ :: k, .var d (nmOf r) (mk (afOf r)).1 sb k hd8 hv (nm_word r) (by omega) m2 ?_ ?_ k1, by rw [N_var _ _ _ (by show (((mk (afOf r)).1 : Nat) : Int) ≠ 0; omega), k2]⟩
    · rw [s2]; exact V_N s1 [] (by simp)
    · rw [s2, N_N]; rfl
theorem Ps_form {s : BS} {l : List TP} (h : Ps 1 s [] l []) : V 1 l ∧ N [] l = l := by
  obtain ⟨k, k1, k2⟩ := Ps_V h (by omega)
  exact ⟨by rw [k2]; exact V_N k1 [] (by simp), by rw [k2, N_N]; rfl⟩

/-! ### texts -/
theorem T_nil (d : Nat) : T d [] = [] := by cases d <;> rfl
theorem T_cons (d : Nat) (p : TP) (l : List TP) : T (d + 1) (p :: l) = (if p.f_Op = 0 then escS p.f_Text else [36, 123] ++ p.f_Name ++ mkS p.f_Op ++ T d p.f_Sub ++ [125]) ++ T (d + 1) l := by
  show List.flatMap _ (p :: l) = _
  rw [List.flatMap_cons]; rfl
theorem T_app (d : Nat) (k l : List TP) : T (d + 1) (k ++ l) = T (d + 1) k ++ T (d + 1) l := by unfold T; rw [List.flatMap_append]
theorem escS_app (u v : BS) : escS (u ++ v) = escS u ++ escS v := by unfold escS; rw [List.flatMap_append]
theorem T_fl (d : Nat) (w : BS) : T (d + 1) (fl w) = escS w := by
  unfold fl
  by_cases h : w = []
  · subst h; rfl
  · rw [if_neg h, T_cons, if_pos rfl, T_nil, List.append_nil]
theorem T_N (d : Nat) : ∀ (k : List TP) (w : BS), T (d + 1) (N w k) = escS w ++ T (d + 1) k
  | [], w => by rw [show N w [] = fl w from rfl, T_fl, T_nil, List.append_nil]
  | p :: k, w => by
    by_cases h : p.f_Op = 0
    · rw [N, if_pos h, T_N d k, T_cons, if_pos h, escS_app, List.append_assoc]
    · rw [N_var w p k h, T_app, T_fl, T_cons, T_cons, T_N d k]
      rfl
theorem escS_cons (c : UInt8) (t : BS) : escS (c :: t) = if c = 36 then 36 :: 36 :: escS t else c :: escS t := by
  unfold escS
  rw [List.flatMap_cons]
  unfold PL.sub
  by_cases h : c = 36
  · simp [h]
  · simp [h]
theorem esc_run {d : Nat} {R : BS} {l : List TP} {r' : BS} : ∀ (t w : BS), (1 < d → (125 : UInt8) ∉ t) → Ps d R (w ++ t) l r' → Ps d (escS t ++ R) w l r'
  | [], w, _, h => by rw [List.append_nil] at h; exact h
  | c :: t, w, hc, h => by
    have ih := esc_run t (w ++ [c]) (fun h1 hm => hc h1 (List.mem_cons_of_mem _ hm)) (by rw [List.append_assoc]; exact h)
    rw [escS_cons]
    by_cases h36 : c = 36
    · rw [if_pos h36]; subst h36; exact .dollar d _ w l r' ih
    · rw [if_neg h36]
      exact .char d c _ w l r' h36 (fun hx => hc hx.1 (by rw [hx.2]; exact List.mem_cons_self ..)) ih
theorem nm_app : ∀ (nm : BS) (c : UInt8) (r : BS), (∀ x ∈ nm, wordB x = true) → wordB c = false → nmOf (nm ++ c :: r) = nm ∧ afOf (nm ++ c :: r) = c :: r
  | [], c, r, _, hc => by
    simp only [nmOf, afOf]
    rw [List.nil_append, List.takeWhile_cons, List.dropWhile_cons]
    simp [hc]
  | x :: nm, c, r, h, hc => by
    obtain ⟨h1, h2⟩ := nm_app nm c r (fun y hy => h y (List.mem_cons_of_mem _ hy)) hc
    have hx := h x (List.mem_cons_self ..)
    simp only [nmOf, afOf] at h1 h2 ⊢
    rw [List.cons_append, List.takeWhile_cons, List.dropWhile_cons, if_pos hx, if_pos hx, h1, h2]
    exact ⟨rfl, rfl⟩
theorem mkS_cases (op : Nat) (h2 : 2 ≤ op) (h7 : op ≤ 7) (X : BS) : ∃ c t, mkS (op : Int) ++ X = c :: t ∧ wordB c = false ∧ mk (mkS (op : Int) ++ X) = (op, (mkS (op : Int)).length) := by
  have : op = 2 ∨ op = 3 ∨ op = 4 ∨ op = 5 ∨ op = 6 ∨ op = 7 := by omega
  rcases this with rfl | rfl | rfl | rfl | rfl | rfl
  · exact ⟨58, 45 :: X, rfl, by decide, rfl⟩
  · exact ⟨45, X, rfl, by decide, rfl⟩
  · exact ⟨58, 63 :: X, rfl, by decide, rfl⟩
  · exact ⟨63, X, rfl, by decide, rfl⟩
  · exact ⟨58, 43 :: X, rfl, by decide, rfl⟩
  · exact ⟨43, X, rfl, by decide, rfl⟩
/-- The text of parts is read as these. -/
theorem V_Ps {d : Nat} {k : List TP} (h : V d k) : 1 ≤ d → d ≤ 9 → ∀ (rest w : BS), (rest = [] ∨ (1 < d ∧ rest.head? = some 125)) → Ps d (T (10 - d) k ++ rest) w (N w k) rest := by
  induction h with
  | nil d => intro hd1 hd rest w hr; rw [T_nil]; exact .done d rest w hr
  | text d t l ht hc h ih =>
    intro hd1 hd rest w hr
    obtain ⟨m, hm⟩ : ∃ m, 10 - d = m + 1 := ⟨9 - d, by omega⟩
    have := ih hd1 hd rest (w ++ t) hr
    rw [hm] at this ⊢
    rw [N_text, T_cons, if_pos rfl, List.append_assoc]
    exact esc_run t w hc this
  | var1 d nm l hd8 hv hw h ih =>
    intro hd1 hd rest w hr
    obtain ⟨m, hm⟩ : ∃ m, 10 - d = m + 1 := ⟨9 - d, by omega⟩
    have := ih hd1 hd rest [] hr
    rw [hm] at this ⊢
    rw [N_var _ _ _ (by show ¬ (1 : Int) = 0; decide), T_cons, if_neg (by show ¬ (1 : Int) = 0; decide), T_nil]
    have e : [36, 123] ++ nm ++ mkS 1 ++ [] ++ [125] ++ T (m + 1) l ++ rest = 36 :: 123 :: (nm ++ 125 :: (T (m + 1) l ++ rest)) := by
      rw [show mkS 1 = [] from rfl]; simp
    rw [e]
    obtain ⟨n1, n2⟩ := nm_app nm 125 (T (m + 1) l ++ rest) hw (by decide)
    have := Ps.one d (nm ++ 125 :: (T (m + 1) l ++ rest)) w (T (m + 1) l ++ rest) (N [] l) rest hd8 (by rw [n1]; exact hv) n2 this
    rw [n1] at this
    exact this
  | var d nm op sb l hd8 hv hw h2 h7 hs hn h ihs ih =>
    intro hd1 hd rest w hr
    obtain ⟨m, hm⟩ : ∃ m, 10 - d = m + 1 := ⟨9 - d, by omega⟩
    have h1 := ih hd1 hd rest [] hr
    have h3 := ihs (by omega) (by omega) (125 :: (T (m + 1) l ++ rest)) [] (.inr ⟨by omega, rfl⟩)
    rw [hm] at h1 ⊢
    rw [show 10 - (d + 1) = m by omega, hn] at h3
    have hop : ¬ (S_tmpl_Part.mk nm [] (op : Int) sb).f_Op = 0 := by show ¬ ((op : Int) = 0); omega
    rw [N_var _ _ _ hop, T_cons, if_neg hop]
    have e : [36, 123] ++ nm ++ mkS (op : Int) ++ T m sb ++ [125] ++ T (m + 1) l ++ rest = 36 :: 123 :: (nm ++ (mkS (op : Int) ++ (T m sb ++ 125 :: (T (m + 1) l ++ rest)))) := by simp
    simp only
    rw [e]
    obtain ⟨c, t, c1, c2, c3⟩ := mkS_cases op h2 h7 (T m sb ++ 125 :: (T (m + 1) l ++ rest))
    obtain ⟨n1, n2⟩ := nm_app nm c t hw c2
    rw [← c1] at n1 n2
    have := Ps.sub d (nm ++ (mkS (op : Int) ++ (T m sb ++ 125 :: (T (m + 1) l ++ rest)))) w sb (T (m + 1) l ++ rest) (N [] l) rest hd8 (by rw [n1]; exact hv) (by rw [n2, c3]; simp only; omega)
      (by rw [n2, c3]; simp only; rw [List.drop_left]; exact h3) h1
    rw [n1, n2, c3] at this
    exact this

/-! ### sizes -/
theorem escS_len : ∀ w : BS, w.length ≤ (escS w).length ∧ (escS w).length ≤ 2 * w.length
  | [] => ⟨Nat.le_refl _, Nat.le_refl _⟩
  | c :: w => by
    obtain ⟨h1, h2⟩ := escS_len w
    rw [escS_cons]
    split
    · simp; omega
    · simp; omega
theorem Ps_len {d : Nat} {r w : BS} {l : List TP} {r' : BS} (h : Ps d r w l r') : 1 ≤ d → d ≤ 9 → r'.length ≤ r.length ∧ (T (10 - d) l).length + 3 * r'.length ≤ 3 * r.length + 2 * w.length := by
  induction h with
  | done d r w h =>
    intro _ hd
    obtain ⟨m, hm⟩ : ∃ m, 10 - d = m + 1 := ⟨9 - d, by omega⟩
    rw [hm, T_fl]
    have := escS_len w
    omega
  | char d c r w l r' h1 h2 h ih => intro hd1 hd; have := ih hd1 hd; simp at this ⊢; omega
  | dollar d r w l r' h ih => intro hd1 hd; have := ih hd1 hd; simp at this ⊢; omega
  | plain d r w l r' hd8 h0 h1 hv h ih =>
    intro hd1 hd
    have h := ih hd1 hd
    obtain ⟨m, hm⟩ : ∃ m, 10 - d = m + 1 := ⟨9 - d, by omega⟩
    rw [hm] at h ⊢
    have hl := congrArg List.length (nm_af r)
    have hne := List.length_pos_iff.2 (varB_ne hv)
    have he := escS_len w
    rw [T_app, T_fl, T_cons, if_neg (by show ¬ (1 : Int) = 0; decide), T_nil, show mkS 1 = [] from rfl]
    simp at h hl ⊢
    omega
  | one d r w r1 l r' hd8 hv hf h ih =>
    intro hd1 hd
    have h := ih hd1 hd
    obtain ⟨m, hm⟩ : ∃ m, 10 - d = m + 1 := ⟨9 - d, by omega⟩
    rw [hm] at h ⊢
    have hl := congrArg List.length (nm_af r)
    rw [hf] at hl
    have he := escS_len w
    rw [T_app, T_fl, T_cons, if_neg (by show ¬ (1 : Int) = 0; decide), T_nil, show mkS 1 = [] from rfl]
    simp at h hl ⊢
    omega
  | sub d r w sb r1 l r' hd8 hv ho hs h ihs ih =>
    intro hd1 hd
    have h1 := ih hd1 hd
    have h2 := ihs (by omega) (by omega)
    obtain ⟨m, hm⟩ : ∃ m, 10 - d = m + 1 := ⟨9 - d, by omega⟩
    rw [hm] at h1 ⊢
    rw [show 10 - (d + 1) = m by omega] at h2
    have hl := congrArg List.length (nm_af r)
    have he := escS_len w
    obtain ⟨m1, m2, m3, m4, m5⟩ := mk_len (afOf r)
    have hmk : (mkS (((mk (afOf r)).1 : Nat) : Int)).length = (mk (afOf r)).2 := by
      have : ∀ x : BS, (mkS (((mk x).1 : Nat) : Int)).length = (mk x).2 := by
        intro x
        cases x with
        | nil => rfl
        | cons c x =>
          cases x with
          | nil =>
            simp only [mk]
            repeat' split
            all_goals rfl
          | cons e x =>
            simp only [mk]
            repeat' split
            all_goals rfl
      exact this _
    have hop : ¬ (S_tmpl_Part.mk (nmOf r) [] ((mk (afOf r)).1 : Int) sb).f_Op = 0 := by show ¬ ((((mk (afOf r)).1 : Nat) : Int) = 0); omega
    rw [T_app, T_fl, T_cons, if_neg hop]
    simp only [List.length_append, List.length_cons, List.length_nil, List.length_drop, hmk] at h1 h2 hl ⊢
    omega
end Go.Proofs.YtljnmojkhajolaaDoor.M
