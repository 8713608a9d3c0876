/-
  Part of the proof of ScriptBack: P45I.
-/
import Derived.Test.YtjjlpomfnfipbaaDoorQP45H
set_option linter.all false
namespace Go.Proofs.YtjjlpomfnfipbaaDoor.M
open Go Go.Proofs.YtjjlpomfnfipbaaDoor.RX Go.Proofs.YtjjlpomfnfipbaaDoor.PL
theorem vl_snoc : ∀ (t : BS) (a : Nat) (c : UInt8), vl a (t ++ [c]) = vl a t * 10 + dval c
  | [], a, c => rfl
  | b :: t, a, c => by show vl (a * 10 + dval b) (t ++ [c]) = _; rw [vl_snoc t]; rfl
theorem bt_dval : ∀ c : UInt8, dig c = true → bt (dval c) = c := byte_all (by decide +kernel)
theorem dval_lt : ∀ c : UInt8, dig c = true → dval c < 10 := byte_all (by decide +kernel)
theorem dval_pos : ∀ c : UInt8, dig c = true → c ≠ 48 → 1 ≤ dval c := byte_all (by decide +kernel)
theorem dig_ne10 : ∀ c : UInt8, dig c = true → c ≠ 10 := byte_all (by decide +kernel)
theorem dg_inv : ∀ (f : Nat) (s acc : BS), s ≠ [] → (∀ b ∈ s, dig b = true) → (s.length = 1 ∨ s.head? ≠ some 48) → s.length ≤ f + 1 → dg f (vl 0 s) acc = s ++ acc
  | f, s, acc, h0, hd, hh, hl => by
    rcases List.eq_nil_or_concat s with rfl | ⟨t, c, rfl⟩
    · exact absurd rfl h0
    · rw [List.concat_eq_append] at hd hh hl ⊢
      have hc := hd c (by simp)
      have hcl := dval_lt c hc
      rw [vl_snoc]
      cases t with
      | nil =>
        have hz : vl 0 ([] : BS) * 10 + dval c = dval c := by show 0 * 10 + dval c = _; omega
        rw [hz]
        cases f with
        | zero => show bt (dval c) :: acc = _; rw [bt_dval c hc]; rfl
        | succ f => rw [dg, if_pos hcl, bt_dval c hc]; rfl
      | cons b t =>
        cases f with
        | zero => simp at hl
        | succ f =>
          have hb := hd b (by simp)
          have hb0 : b ≠ 48 := by
            rcases hh with hh | hh
            · simp at hh
            · intro e; subst e; exact hh rfl
          have hp := dval_pos b hb hb0
          have hv : 1 ≤ vl 0 (b :: t) := by
            have := vl_ge t (0 * 10 + dval b)
            show 1 ≤ vl (0 * 10 + dval b) t
            omega
          rw [dg, if_neg (by omega), show (vl 0 (b :: t) * 10 + dval c) / 10 = vl 0 (b :: t) by omega, show (vl 0 (b :: t) * 10 + dval c) % 10 = dval c by omega, bt_dval c hc,
            dg_inv f (b :: t) (c :: acc) (by simp) (fun x hx => hd x (List.mem_append_left _ hx)) (.inr (by simpa using hb0)) (by simp at hl ⊢; omega)]
          simp
theorem numV_inv {s : BS} {v : Int} (h : numV s = some v) : s = txI v ∧ (10 : UInt8) ∉ s ∧ I64 v := by
  unfold numV at h
  split at h
  · rename_i hz
    cases h
    unfold ncount at hz ⊢
    split at hz
    · rename_i hn
      rw [if_pos hn]
      split at hz
      · rename_i hm
        rw [if_pos hm]
        have hd := isNum_all hn
        have hl : s.length ≤ 19 := by
          apply Classical.byContradiction; intro hc
          have := isNum_long hn (by omega)
          have e : (10 : Nat) ^ 18 = 1000000000000000000 := by decide
          have e2 : MOST = 1099511627776 := rfl
          omega
        have h0 : s ≠ [] := by intro e; subst e; cases hn
        have hh : s.length = 1 ∨ s.head? ≠ some 48 := by
          cases s with
          | nil => exact absurd rfl h0
          | cons b t =>
            cases t with
            | nil => exact .inl rfl
            | cons c t =>
              right
              intro e
              simp only [List.head?_cons, Option.some.injEq] at e
              subst e
              simp [isNum] at hn
        refine ⟨?_, fun hx => dig_ne10 10 (hd 10 hx) rfl, ?_, ?_⟩
        · unfold txI
          have := dg_inv 19 s [] h0 hd hh (by omega)
          simp only [List.append_nil] at this
          rw [if_neg (by simp)]
          simp only [Int.toNat_natCast]
          exact this.symm
        · show -9223372036854775808 ≤ ((vl 0 s : Nat) : Int); omega
        · have e2 : MOST = 1099511627776 := rfl
          show ((vl 0 s : Nat) : Int) ≤ 9223372036854775807; omega
      · cases hz
    · cases hz
  · cases h
abbrev Nl (w : BS) : Prop := (10 : UInt8) ∉ w
theorem numP_inv {l : List BS} {v : Int} {r : List BS} (h : numP l = some (v, r)) : l = txI v :: r ∧ Nl (txI v) ∧ I64 v := by
  cases l with
  | nil => cases h
  | cons s t =>
    simp only [numP] at h
    obtain ⟨w, hw, e⟩ := Option.map_eq_some_iff.1 h
    cases e
    obtain ⟨h1, h2, h3⟩ := numV_inv hw
    exact ⟨by rw [← h1], by rw [← h1]; exact h2, h3⟩
theorem keyP_inv {l : List BS} {s : BS} {r : List BS} (h : keyP l = some (s, r)) : l = s :: r ∧ Nl s ∧ s.length ≤ 64 := by
  cases l with
  | nil => cases h
  | cons a t =>
    simp only [keyP] at h
    split at h
    · rename_i hk
      cases h
      unfold keyB at hk
      simp only [Bool.and_eq_true, List.all_eq_true, decide_eq_true_eq] at hk
      refine ⟨rfl, fun hx => ?_, hk.2⟩
      have := (hk.1.1 10 hx).1
      revert this; decide
    · cases h
theorem sv_ne10 : sv1 10 = false ∧ sv2 10 = false ∧ pr1 10 = false ∧ pr2 10 = false := by decide +kernel
theorem isName_inv {p q : UInt8 → Bool} (hp : p 10 = false) (hq : q 10 = false) {s : BS} (h : isName p q s = true) : Nl s ∧ s.length ≤ 24 := by
  cases s with
  | nil => cases h
  | cons c t =>
    simp only [isName, Bool.and_eq_true, decide_eq_true_eq, List.all_eq_true] at h
    refine ⟨fun hx => ?_, by simp; omega⟩
    rcases List.mem_cons.1 hx with e | hx
    · subst e; rw [hp] at h; exact absurd h.1.2 (by decide)
    · have := h.2 10 hx; rw [hq] at this; cases this
theorem pjP_inv {l : List BS} {s : BS} {r : List BS} (h : pjP l = some (s, r)) : l = s :: r ∧ Nl s ∧ s.length ≤ 24 := by
  cases l with
  | nil => cases h
  | cons a t =>
    simp only [pjP] at h
    split at h
    · rename_i hk
      cases h
      exact ⟨rfl, isName_inv sv_ne10.2.2.1 sv_ne10.2.2.2 hk⟩
    · cases h
theorem svcs_inv : ∀ l : List BS, l = (svcs l).1 ++ (svcs l).2 ∧ ∀ w ∈ (svcs l).1, Nl w ∧ w.length ≤ 24
  | [] => ⟨rfl, fun w hw => by cases hw⟩
  | s :: t => by
    obtain ⟨h1, h2⟩ := svcs_inv t
    unfold svcs
    split
    · rename_i hs
      refine ⟨by simp only [List.cons_append]; rw [← h1], fun w hw => ?_⟩
      rcases List.mem_cons.1 hw with rfl | hw
      · exact isName_inv sv_ne10.1 sv_ne10.2.1 hs
      · exact h2 w hw
    · exact ⟨rfl, fun w hw => by cases hw⟩
abbrev AN (l : List BS) : Prop := ∀ w ∈ l, Nl w
theorem AN.app {a b : List BS} (h1 : AN a) (h2 : AN b) : AN (a ++ b) := fun w hw => by
  rcases List.mem_append.1 hw with hw | hw
  · exact h1 w hw
  · exact h2 w hw
theorem AN.cons {a : BS} {b : List BS} (h1 : Nl a) (h2 : AN b) : AN (a :: b) := fun w hw => by
  rcases List.mem_cons.1 hw with rfl | hw
  · exact h1
  · exact h2 w hw
theorem AN.nil : AN [] := fun w hw => by cases hw
theorem optP_inv {a : BS} {l : List BS} {v : Int} {r : List BS} (ha : Nl a) (h : optP a l = some (v, r)) : l = optW a v ++ r ∧ AN (optW a v) ∧ I64 v := by
  unfold optP at h
  unfold optW
  split at h
  · rename_i hh
    cases l with
    | nil => cases hh
    | cons s t =>
      simp only [List.head?_cons, Option.some.injEq] at hh
      subst hh
      simp only [List.tail_cons] at h
      cases hn : numP t with
      | none => rw [hn] at h; cases h
      | some p =>
        obtain ⟨w, q⟩ := p
        rw [hn] at h
        simp only at h
        split at h
        · cases h
        · rename_i h0
          cases h
          obtain ⟨h1, h2, h3⟩ := numP_inv hn
          rw [if_neg h0]
          exact ⟨by rw [h1]; rfl, AN.cons ha (AN.cons h2 AN.nil), h3⟩
  · cases h
    rw [if_pos rfl]
    exact ⟨rfl, AN.nil, by decide, by decide⟩
theorem flg_inv (a : BS) (l : List BS) : l = flgW a (flg a l).1 ++ (flg a l).2 := by
  unfold flg flgW
  split
  · rename_i h
    cases l with
    | nil => cases h
    | cons s t =>
      simp only [List.head?_cons, Option.some.injEq] at h
      subst h; rfl
  · rfl
theorem flgW_an (a : BS) (b : Bool) (ha : Nl a) : AN (flgW a b) := by
  unfold flgW; split
  · exact AN.cons ha AN.nil
  · exact AN.nil
structure Inv (l : List BS) (x : St) (r : List BS) : Prop where
  eq : l = wds x ++ r
  an : AN (wds x)
  hd : ∃ c t w, wds x = (c :: t) :: w ∧ c ≠ 35
  bd : Bd x
theorem i64_0 : I64 0 := ⟨by decide, by decide⟩
theorem kindW (h : BS) (hk : kindOf h ≠ 0) : h = cmdW (kindOf h) ∧ Nl h ∧ (∃ c t, h = c :: t ∧ c ≠ 35) := by
  have H : ∀ (w : BS) (k : Int), h = w → kindOf w = k → (w = cmdW k ∧ Nl w ∧ (∃ c t, w = c :: t ∧ c ≠ 35)) → h = cmdW (kindOf h) ∧ Nl h ∧ (∃ c t, h = c :: t ∧ c ≠ 35) := by
    intro w k e1 e2 e3; subst e1; rw [e2]; exact e3
  by_cases h1 : h = [117, 112]
  · exact H _ 1 h1 (by decide +kernel) ⟨by decide +kernel, by decide, _, _, rfl, by decide⟩
  by_cases h2 : h = [100, 111, 119, 110]
  · exact H _ 2 h2 (by decide +kernel) ⟨by decide +kernel, by decide, _, _, rfl, by decide⟩
  by_cases h3 : h = [115, 116, 111, 112]
  · exact H _ 3 h3 (by decide +kernel) ⟨by decide +kernel, by decide, _, _, rfl, by decide⟩
  by_cases h4 : h = [114, 101, 115, 116, 97, 114, 116]
  · exact H _ 4 h4 (by decide +kernel) ⟨by decide +kernel, by decide, _, _, rfl, by decide⟩
  by_cases h5 : h = [115, 99, 97, 108, 101]
  · exact H _ 5 h5 (by decide +kernel) ⟨by decide +kernel, by decide, _, _, rfl, by decide⟩
  by_cases h6 : h = [114, 109]
  · exact H _ 6 h6 (by decide +kernel) ⟨by decide +kernel, by decide, _, _, rfl, by decide⟩
  exact absurd (by unfold kindOf; rw [if_neg h1, if_neg h2, if_neg h3, if_neg h4, if_neg h5, if_neg h6]) hk
theorem cmd_inv {h : BS} {l : List BS} {x : St} {r : List BS} (hk : kindOf h ≠ 0) (hl : l.length ≤ 4000) (hp : cmdP (kindOf h) l = some (x, r)) : Inv (h :: l) x r := by
  unfold cmdP at hp
  obtain ⟨⟨N, l1⟩, hN, hp⟩ := Option.bind_eq_some_iff.1 hp
  obtain ⟨⟨C, l2⟩, hC, hp⟩ := Option.bind_eq_some_iff.1 hp
  obtain ⟨⟨T, l3⟩, hT, hp⟩ := Option.bind_eq_some_iff.1 hp
  obtain ⟨⟨R, l4⟩, hR, hp⟩ := Option.bind_eq_some_iff.1 hp
  simp only at hC hT hR hp
  cases hp
  obtain ⟨n1, n2, n3⟩ := numP_inv hN
  obtain ⟨s1, s2⟩ := svcs_inv l1
  obtain ⟨c1, c2, c3⟩ := optP_inv (by decide) hC
  have o1 := flg_inv [45, 111] l2
  have v1 := flg_inv [45, 118] (flg [45, 111] l2).2
  obtain ⟨t1, t2, t3⟩ := optP_inv (by decide) hT
  obtain ⟨r1, r2, r3⟩ := optP_inv (by decide) hR
  obtain ⟨w1, w2, w3⟩ := kindW h hk
  have hw : wds (S_ref45_Step.mk 1 N 0 (S_api_Command.mk (kindOf h) (svcs l1).1 C (flg [45, 111] l2).1 (flg [45, 118] (flg [45, 111] l2).2).1 T R) zCl) = h :: txI N :: ((svcs l1).1 ++ optW [45, 110] C ++ flgW [45, 111] (flg [45, 111] l2).1 ++ flgW [45, 118] (flg [45, 118] (flg [45, 111] l2).2).1 ++ optW [45, 116] T ++ optW [45, 114] R) := by
    show cmdW (kindOf h) :: _ = _
    rw [← w1]; rfl
  have hsl := svcs_len l1
  have hl1 : l1.length ≤ 4000 := by rw [n1] at hl; simp at hl; omega
  refine ⟨?_, ?_, ?_, ⟨n3, i64_0, c3, t3, r3, i64_0, ?_, fun w hw => ?_, by show ([] : BS).length ≤ 40000; decide, by show ([] : BS).length ≤ 40000; decide, by show ([] : BS).length ≤ 40000; decide⟩⟩
  · rw [hw, n1]
    simp only [List.cons_append, List.cons.injEq, true_and]
    conv => lhs; rw [s1, c1, o1, v1, t1, r1]
    simp only [List.append_assoc]
  · rw [hw]
    exact AN.cons w2 (AN.cons n2 (AN.app (AN.app (AN.app (AN.app (AN.app (fun w hw => (s2 w hw).1) c2) (flgW_an _ _ (by decide))) (flgW_an _ _ (by decide))) t2) r2))
  · obtain ⟨c, t, e, hc⟩ := w3
    exact ⟨c, t, _, by rw [hw, ← e], hc⟩
  · show (svcs l1).1.length ≤ 5000; omega
  · have := (s2 w hw).2; omega
theorem stOf_bd {k a b : Int} (ha : I64 a) (hb : I64 b) : Bd (stOf k a b) := ⟨ha, hb, i64_0, i64_0, i64_0, i64_0, by show ([] : List BS).length ≤ _; decide, fun w hw => (by cases hw), by show ([] : BS).length ≤ _; decide, by show ([] : BS).length ≤ _; decide, by show ([] : BS).length ≤ _; decide⟩
theorem call_bd {k : Int} {nm pj : BS} {id : Int} (hi : I64 id) (h1 : nm.length ≤ 64) (h2 : pj.length ≤ 64) : Bd (S_ref45_Step.mk 9 0 0 zCm (callOf k nm id pj)) :=
  ⟨i64_0, i64_0, i64_0, i64_0, i64_0, hi, by show ([] : List BS).length ≤ _; decide, fun w hw => (by cases hw), by show nm.length ≤ _; omega, by show ([] : BS).length ≤ _; decide, by show pj.length ≤ _; omega⟩
theorem one_inv {k : Int} {h : BS} {l : List BS} {x : St} {r : List BS} (hw : ∀ v, wds (stOf k v 0) = [h, txI v]) (hh : ∃ c t, h = c :: t ∧ c ≠ 35) (hn : Nl h) (hp : oneP k l = some (x, r)) : Inv (h :: l) x r := by
  unfold oneP at hp
  obtain ⟨⟨N, l1⟩, hN, hp⟩ := Option.bind_eq_some_iff.1 hp
  cases hp
  obtain ⟨n1, n2, n3⟩ := numP_inv hN
  obtain ⟨c, t, e, hc⟩ := hh
  exact ⟨by rw [hw, n1]; rfl, by rw [hw]; exact AN.cons hn (AN.cons n2 AN.nil), ⟨c, t, _, by rw [hw, e], hc⟩, stOf_bd n3 i64_0⟩
theorem two_inv {k : Int} {h : BS} {l : List BS} {x : St} {r : List BS} (hw : ∀ v u, wds (stOf k v u) = [h, txI v, txI u]) (hh : ∃ c t, h = c :: t ∧ c ≠ 35) (hn : Nl h) (hp : twoP k l = some (x, r)) : Inv (h :: l) x r := by
  unfold twoP at hp
  obtain ⟨⟨N, l1⟩, hN, hp⟩ := Option.bind_eq_some_iff.1 hp
  obtain ⟨⟨M, l2⟩, hM, hp⟩ := Option.bind_eq_some_iff.1 hp
  cases hp
  obtain ⟨n1, n2, n3⟩ := numP_inv hN
  obtain ⟨m1, m2, m3⟩ := numP_inv hM
  obtain ⟨c, t, e, hc⟩ := hh
  refine ⟨?_, by rw [hw]; exact AN.cons hn (AN.cons n2 (AN.cons m2 AN.nil)), ⟨c, t, _, by rw [hw, e], hc⟩, stOf_bd n3 m3⟩
  simp only at m1
  rw [hw, n1, m1]; rfl
structure InvC (l : List BS) (x : Cl) (r : List BS) : Prop where
  eq : l = callW x ++ r
  an : AN (callW x)
  bd : Bd (S_ref45_Step.mk 9 0 0 zCm x)
theorem call_inv {l : List BS} {x : Cl} {r : List BS} (hp : callP l = some (x, r)) : InvC l x r := by
  have hk : ∀ (k : Int) (h : BS) (t : List BS), (∀ nm pj, callW (callOf k nm 0 pj) = [h, nm, pj]) → Nl h → keptP k t = some (x, r) → InvC (h :: t) x r := by
    intro k h t hw hn hp
    unfold keptP at hp
    obtain ⟨⟨a, l1⟩, h1, hp⟩ := Option.bind_eq_some_iff.1 hp
    obtain ⟨⟨b, l2⟩, h2, hp⟩ := Option.bind_eq_some_iff.1 hp
    cases hp
    obtain ⟨a1, a2, a3⟩ := keyP_inv h1
    obtain ⟨b1, b2, b3⟩ := pjP_inv h2
    simp only at b1
    exact ⟨by rw [hw, a1, b1]; rfl, by rw [hw]; exact AN.cons hn (AN.cons a2 (AN.cons b2 AN.nil)), call_bd i64_0 a3 (by simp only; omega)⟩
  have hn : ∀ (k : Int) (h : BS) (t : List BS), (∀ nm, callW (callOf k nm 0 []) = [h, nm]) → Nl h → nameP k t = some (x, r) → InvC (h :: t) x r := by
    intro k h t hw hn hp
    unfold nameP at hp
    obtain ⟨⟨a, l1⟩, h1, hp⟩ := Option.bind_eq_some_iff.1 hp
    cases hp
    obtain ⟨a1, a2, a3⟩ := keyP_inv h1
    exact ⟨by rw [hw, a1]; rfl, by rw [hw]; exact AN.cons hn (AN.cons a2 AN.nil), call_bd i64_0 a3 (by decide)⟩
  have hi : ∀ (k : Int) (h : BS) (t : List BS), (∀ id, callW (callOf k [] id []) = [h, txI id]) → Nl h → idP k t = some (x, r) → InvC (h :: t) x r := by
    intro k h t hw hnl hp
    unfold idP at hp
    obtain ⟨⟨a, l1⟩, h1, hp⟩ := Option.bind_eq_some_iff.1 hp
    cases hp
    obtain ⟨a1, a2, a3⟩ := numP_inv h1
    exact ⟨by rw [hw, a1]; rfl, by rw [hw]; exact AN.cons hnl (AN.cons a2 AN.nil), call_bd a3 (by decide) (by decide)⟩
  cases l with
  | nil => cases hp
  | cons a t =>
    simp only [callP] at hp
    split at hp
    · rename_i e; rw [e]; exact hk _ _ _ (fun nm pj => rfl) (by decide) hp
    split at hp
    · rename_i e; rw [e]; exact hk _ _ _ (fun nm pj => rfl) (by decide) hp
    split at hp
    · rename_i e; rw [e]; exact hn _ _ _ (fun nm => rfl) (by decide) hp
    split at hp
    · rename_i e; rw [e]; exact hn _ _ _ (fun nm => rfl) (by decide) hp
    split at hp
    · rename_i e; rw [e]; exact hi _ _ _ (fun nm => rfl) (by decide) hp
    split at hp
    · rename_i e; rw [e]; exact hi _ _ _ (fun nm => rfl) (by decide) hp
    split at hp
    · rename_i e; rw [e]; exact hi _ _ _ (fun nm => rfl) (by decide) hp
    cases hp
theorem line_inv {l : List BS} {x : St} {r : List BS} (hl : l.length ≤ 4000) (hp : lineP l = some (x, r)) : Inv l x r := by
  cases l with
  | nil => cases hp
  | cons h t =>
    simp only [List.length_cons] at hl
    simp only [lineP] at hp
    split at hp
    · rename_i hk; exact cmd_inv hk (by omega) hp
    split at hp
    · rename_i e; rw [e]; cases hp; exact ⟨rfl, by decide, ⟨_, _, _, rfl, by decide⟩, stOf_bd i64_0 i64_0⟩
    split at hp
    · rename_i e; rw [e]; cases hp; exact ⟨rfl, by decide, ⟨_, _, _, rfl, by decide⟩, stOf_bd i64_0 i64_0⟩
    split at hp
    · rename_i e; rw [e]; exact one_inv (fun v => rfl) ⟨_, _, rfl, by decide⟩ (by decide) hp
    split at hp
    · rename_i e; rw [e]; exact one_inv (fun v => rfl) ⟨_, _, rfl, by decide⟩ (by decide) hp
    split at hp
    · rename_i e; rw [e]; exact one_inv (fun v => rfl) ⟨_, _, rfl, by decide⟩ (by decide) hp
    split at hp
    · rename_i e; rw [e]; exact two_inv (fun v u => rfl) ⟨_, _, rfl, by decide⟩ (by decide) hp
    split at hp
    · rename_i e; rw [e]; exact two_inv (fun v u => rfl) ⟨_, _, rfl, by decide⟩ (by decide) hp
    split at hp
    · rename_i e
      rw [e]
      obtain ⟨⟨c, l1⟩, hc, hp⟩ := Option.bind_eq_some_iff.1 hp
      cases hp
      obtain ⟨i1, i2, i3⟩ := call_inv hc
      have hw : wds (S_ref45_Step.mk 9 0 0 zCm c) = [99, 97, 108, 108] :: callW c := rfl
      exact ⟨by rw [hw, i1]; rfl, by rw [hw]; exact AN.cons (by decide) i2, ⟨_, _, _, hw, by decide⟩, i3⟩
    cases hp
theorem jw_parts : ∀ s : BS, jw (parts 32 s) = s
  | [] => rfl
  | b :: t => by
    have ih := jw_parts t
    have hj : ∀ l : List BS, l ≠ [] → tl l = 32 :: jw l := by
      intro l hl
      cases l with
      | nil => exact absurd rfl hl
      | cons w r => rw [tl_cons]; rfl
    unfold parts
    split
    · rename_i e
      subst e
      show [] ++ tl (parts 32 t) = _
      rw [hj _ (parts_ne 32 t), ih]; rfl
    · cases hp : parts 32 t with
      | nil => exact absurd hp (parts_ne 32 t)
      | cons x r =>
        rw [hp] at ih
        show (b :: x) ++ tl r = _
        rw [List.cons_append]
        have ih : x ++ tl r = t := ih
        rw [ih]
theorem jw_nl {l : List BS} (h : AN l) : Nl (jw l) := by
  have ht : ∀ r : List BS, AN r → Nl (tl r) := by
    intro r
    induction r with
    | nil => intro _ hx; cases hx
    | cons w r ih =>
      intro h hx
      rw [tl_cons] at hx
      rcases List.mem_cons.1 hx with e | hx
      · revert e; decide
      rcases List.mem_append.1 hx with hx | hx
      · exact h w (by simp) hx
      · exact ih (fun y hy => h y (by simp [hy])) hx
  cases l with
  | nil => intro hx; cases hx
  | cons w r =>
    intro hx
    rcases List.mem_append.1 hx with hx | hx
    · exact h w (by simp) hx
    · exact ht r (fun y hy => h y (by simp [hy])) hx
theorem back {s : BS} {x : St} (hs : s.length ≤ 3900) (h : lineR s = some x) : wr x = s ∧ Bd x ∧ Nl s ∧ idle s = false := by
  have hpl := parts_len 32 s
  obtain ⟨i1, i2, ⟨c, t, w, i3, i4⟩, i5⟩ := line_inv (by omega) (lineR_some h)
  rw [List.append_nil] at i1
  have hj := jw_parts s
  have hw : wr x = s := by unfold wr; rw [← i1]; exact hj
  refine ⟨hw, i5, ?_, ?_⟩
  · rw [← hw]; exact jw_nl i2
  · rw [← hw]
    unfold wr
    rw [i3]
    have : idle (c :: (t ++ tl w)) = false := by
      unfold idle
      have e1 : ((c :: (t ++ tl w)) == ([] : BS)) = false := rfl
      rw [e1, Bool.false_or]
      exact decide_eq_false i4
    exact this
structure Good (n : Nat) (x : St) : Prop where
  fw : Fw x
  ln : lineR (tx x) = some x
  tt : script_Text n x = some (tx x)
theorem lb_j2 (n : Nat) (hn : 2000000 ≤ n) (hA : law45_awake n = some true) (l acc : List St) (i : Nat) (hi : i < l.length) (hw : W_ref45_Step l[i]) (ha : acc.length ≤ 1000) :
    ∃ o, law45_ScriptBack_j2 n l acc (i : Int) = some o ∧ (o = .inr true ∨ o = .inl acc ∨ (o = .inl (acc ++ [l[i]]) ∧ Good n l[i])) := by
  unfold law45_ScriptBack_j2
  obtain ⟨b, f1, f2⟩ := Few_eq n l[i] (by omega)
  rw [if_pos (in_i hi), at_i hi, f1, Option.bind_some, hA]
  cases b with
  | false => exact ⟨_, rfl, .inl rfl⟩
  | true =>
    have w := f2 rfl
    have hl := w.len
    have ht := ptext_eq n l[i] (w.bd hw) (by omega) w.okk hn
    have ht : script_Text n l[i] = some (tx l[i]) := ht
    have hlen := finT_len l[i] (wr l[i])
    have hlen : (tx l[i]).length ≤ (wr l[i]).length := hlen
    rw [if_neg (by exact Bool.false_ne_true), if_pos (in_i hi), ht, Option.bind_some]
    by_cases h0 : tx l[i] = []
    · rw [if_neg (by simp [h0])]
      exact ⟨_, rfl, .inr (.inl rfl)⟩
    · have hln : lineR (tx l[i]) = some l[i] := by
        unfold tx finT at h0 ⊢
        split at h0
        · rename_i ha
          rw [if_pos ha]
          cases hx : lineR (wr l[i]) with
          | none => rw [hx] at ha; cases ha
          | some y =>
            rw [hx] at ha
            rw [sameR_iff ha]
        · exact absurd rfl h0
      have hcap : decide ((List.length acc + List.length ([l[i]] : List St)) * (296 + 1) ≤ limit) = true := cap297 (by omega)
      rw [if_pos (by simpa using h0), Line_eq n _ (by omega) hn, Option.bind_some, hln]
      simp only [okR]
      rw [if_pos (by rw [in_i hi]; try rw [Bool.or_true]), pSame_eq n l[i] l[i] w.okk (by omega), sameR_refl, hcap, in_i hi]
      exact ⟨_, rfl, .inr (.inr ⟨rfl, w, hln, ht⟩)⟩
theorem lb_l (n : Nat) (hn : 2000000 ≤ n) (hA : law45_awake n = some true) (l : List St) (hw : ∀ x ∈ l, W_ref45_Step x) (hl : l.length ≤ 100) : ∀ (k i : Nat) (acc : List St), i ≤ l.length → l.length - i < k → acc.length ≤ i → (∀ x ∈ acc, Good n x) →
    ∃ o, law45_ScriptBack_l1 n l k acc (i : Int) = some o ∧ (o = .inr true ∨ ∃ ys, o = .inl ys ∧ ys.length ≤ l.length ∧ ∀ x ∈ ys, Good n x)
  | 0, i, acc, _, h, _, _ => by omega
  | k + 1, i, acc, h1, h2, h3, h4 => by
    rw [law45_ScriptBack_l1]
    by_cases hi : i < l.length
    · obtain ⟨o, e1, e2⟩ := lb_j2 n hn hA l acc i hi (hw _ (List.getElem_mem hi)) (by omega)
      rw [if_pos (lt_i hi), e1, Option.bind_some]
      rcases e2 with rfl | rfl | ⟨rfl, hg⟩
      · exact ⟨_, rfl, .inl rfl⟩
      · rw [Sum.elim_inl, wrap_s i (by omega)]
        exact lb_l n hn hA l hw hl k (i + 1) acc (by omega) (by omega) (by omega) h4
      · rw [Sum.elim_inl, wrap_s i (by omega)]
        refine lb_l n hn hA l hw hl k (i + 1) _ (by omega) (by omega) (by simp; omega) fun x hx => ?_
        rcases List.mem_append.1 hx with hx | hx
        · exact h4 x hx
        · rw [List.mem_singleton.1 hx]; exact hg
    · rw [if_neg (by rw [nlt_i (Nat.not_lt.1 hi)]; exact Bool.false_ne_true)]
      exact ⟨_, rfl, .inr ⟨acc, rfl, by omega, h4⟩⟩
def shw (ys : List St) : BS := ys.flatMap fun x => tx x ++ [10]
theorem read_shw (n : Nat) (hn : 2000000 ≤ n) : ∀ (ys acc : List St) (k no : Nat), (∀ x ∈ ys, Good n x ∧ (tx x).length ≤ 3900) → (shw ys).length ≤ 9000 → ys.length < k → acc.length ≤ no → no + ys.length ≤ 9000 → script_Read_l1 n k (shw ys) acc ((no + 1 : Nat) : Int) = some (.inl (acc ++ ys))
  | [], acc, k + 1, no, _, _, _, _, _ => by rw [script_Read_l1]; simp [shw]
  | y :: ys, acc, k + 1, no, hg, hl, hk, ha, hno => by
    obtain ⟨g, gl⟩ := hg y (by simp)
    obtain ⟨b1, b2, b3, b4⟩ := back (by omega) g.ln
    have hsh : shw (y :: ys) = tx y ++ 10 :: shw ys := by unfold shw; simp
    rw [hsh] at hl ⊢
    simp only [List.length_append, List.length_cons] at hl hk hno
    have hrow : rowOf (tx y ++ 10 :: shw ys) = (tx y, shw ys) := by unfold rowOf; rw [upto_app b3]
    rw [pRead_s n hn k _ acc no (by simp) (by simp; omega) ha (by omega)]
    unfold rowR
    rw [hrow]
    simp only
    rw [b4, if_neg Bool.false_ne_true, g.ln]
    simp only [Option.map_some, Option.elim_some]
    rw [read_shw n hn ys (acc ++ [y]) k (no + 1) (fun x hx => hg x (by simp [hx])) (by omega) (by omega) (by simp; omega) (by omega)]
    simp
theorem Read_shw (n : Nat) (hn : 2000000 ≤ n) (ys : List St) (hy : ys.length ≤ 400) (hg : ∀ x ∈ ys, Good n x ∧ (tx x).length ≤ 3900) : script_Read n (shw ys) = some (if (shw ys).length > 8192 then ([], 0, 9) else (ys, 0, 0)) := by
  unfold script_Read
  by_cases h : (shw ys).length > 8192
  · rw [if_pos (decide_eq_true (by omega)), if_pos h]
  · have hl := read_shw n hn ys [] n 0 hg (by omega) (by omega) (by simp) (by omega)
    have hl : script_Read_l1 n n (shw ys) [] 1 = some (.inl ys) := hl
    rw [if_neg (by simp; omega), if_neg h, hl, Option.bind_some, Sum.elim_inl, if_neg (by simp; omega)]
theorem back_end {n : Nat} {ys : List St} (hA : law45_awake n = some true) (hn : 2000000 ≤ n) (hy : ys.length ≤ 400) (hg : ∀ x ∈ ys, Good n x ∧ (tx x).length ≤ 3900) :
    ((script_Show n ys).bind fun r5 =>
  (script_Read n r5).bind fun r6 =>
  if (decide ((List.length r5 : Int) > 8192)) = true then (((if ((r6.2.2 == 9) == true) = true then law45_awake n else some false)).bind fun r7 =>
  some (bif (r6.2.2 == 9) then r7 else false))
  else (((if ((bif (r6.2.2 == 0) then (r6.2.1 == 0) else false) == true) = true then law45_steps n r6.1 else some [])).bind fun r8 =>
  ((if ((bif (r6.2.2 == 0) then (r6.2.1 == 0) else false) == true) = true then law45_steps n ys else some [])).bind fun r9 =>
  ((if ((bif (r6.2.2 == 0) then (r6.2.1 == 0) else false) == true) = true then law45_same n r8 r9 else some false)).bind fun r10 =>
  ((if ((bif (bif (r6.2.2 == 0) then (r6.2.1 == 0) else false) then r10 else false) == true) = true then law45_awake n else some false)).bind fun r11 =>
  some (bif (bif (bif (r6.2.2 == 0) then (r6.2.1 == 0) else false) then r10 else false) then r11 else false))) = some true := by
  have hs := Show_eq n ys (fun x hx => ⟨(hg x hx).1.tt, by have := (hg x hx).2; omega⟩) (by omega) (by omega)
  have hs : script_Show n ys = some (shw ys) := hs
  have hr := Read_shw n hn ys hy hg
  have hst := steps_eq n ys (by omega) (by omega)
  have hsm := lsame_refl n ys (by omega) (fun x hx => (hg x hx).1.fw.okk) (by omega)
  rw [hs, Option.bind_some, hr, Option.bind_some]
  by_cases h : (shw ys).length > 8192
  · rw [if_pos (decide_eq_true (by omega)), if_pos h, hA]; rfl
  · rw [if_neg (by simp; omega), if_neg h, hA]
    have e0 : (bif ((0 : Int) == 0) then ((0 : Int) == 0) else false) = true := rfl
    simp only [e0, hst, hsm, beq_self_eq_true, if_true, Option.bind_some, cond_true]
theorem law45_ScriptBack_true (a0 : List UInt8) (_ : List.length a0 ≤ maxLen) (a1 : List (S_ref45_Step)) (h1 : W_Lref45_Step a1) : ∃ n, law45_ScriptBack n a0 a1 = some true := by
  have key : ∀ n, 2000000 ≤ n → law45_awake n = some true → law45_ScriptBack n a0 a1 = some true := by
    intro n hn hA
    unfold law45_ScriptBack
    by_cases hb : a0.length > 3000 ∨ a1.length > 40
    · have : (bif (decide ((List.length a0 : Int) > 3000)) then true else (decide ((List.length a1 : Int) > 40))) = true := by
        rcases hb with e | e
        · rw [decide_eq_true (by omega : (List.length a0 : Int) > 3000)]; rfl
        · rw [decide_eq_true (by omega : (List.length a1 : Int) > 40)]; cases decide ((List.length a0 : Int) > 3000) <;> rfl
      rw [if_pos this, hA]; rfl
    · have : (bif (decide ((List.length a0 : Int) > 3000)) then true else (decide ((List.length a1 : Int) > 40))) = false := by
        rw [decide_eq_false (by omega : ¬ (List.length a0 : Int) > 3000), decide_eq_false (by omega : ¬ (List.length a1 : Int) > 40)]; rfl
      rw [this, if_neg Bool.false_ne_true, Line_eq n a0 (by omega) hn, Option.bind_some]
      have hfirst : ∃ r3, (if ((((okR (lineR a0)).2, (okR (lineR a0)).1).2 == 0) == true) = true then script_Text n ((okR (lineR a0)).2, (okR (lineR a0)).1).1 else some []) = some r3 ∧ (bif (((okR (lineR a0)).2, (okR (lineR a0)).1).2 == 0) then (!(r3 == a0)) else false) = false := by
        cases hl : lineR a0 with
        | none => exact ⟨[], rfl, rfl⟩
        | some x =>
          obtain ⟨b1, b2, b3, b4⟩ := back (by omega) hl
          have ht := ptext_eq n x b2 (by rw [b1]; omega) (lineR_ok (by omega) hl) hn
          have hf : finT x (wr x) = a0 := by
            unfold finT
            rw [b1, hl, if_pos]
            exact sameR_refl x
          rw [hf] at ht
          refine ⟨a0, ht, ?_⟩
          show (!(a0 == a0)) = false
          rw [beq_self_eq_true]; rfl
      obtain ⟨r3, e1, e2⟩ := hfirst
      rw [e1, Option.bind_some, e2, if_neg Bool.false_ne_true]
      obtain ⟨o, l1, l2⟩ := lb_l n hn hA a1 h1.2 (by omega) n 0 [] (by omega) (by omega) (by simp) (fun x hx => by cases hx)
      have l1 : law45_ScriptBack_l1 n a1 n [] 0 = some o := l1
      rw [l1, Option.bind_some]
      rcases l2 with rfl | ⟨ys, rfl, y1, y2⟩
      · rfl
      · rw [Sum.elim_inl]
        refine back_end hA hn (by omega) fun x hx => ⟨y2 x hx, ?_⟩
        have := (y2 x hx).fw.len
        have h3 := finT_len x (wr x)
        have h3 : (tx x).length ≤ (wr x).length := h3
        omega
  exact ⟨2000000, key 2000000 (Nat.le_refl _) awake45⟩
end Go.Proofs.YtjjlpomfnfipbaaDoor.M
