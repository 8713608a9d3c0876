import Derived.Test.YtefojkdckfidcaaGreatDoorQP10
set_option linter.all false
namespace Go.Proofs.YtefojkdckfidcaaGreatDoor.M
open Go Go.Proofs.YtefojkdckfidcaaGreatDoor.RX Go.Proofs.YtefojkdckfidcaaGreatDoor.PL
set_option maxRecDepth 100000
theorem fits9 {a b : Nat} (h : a + b ≤ 1000000000) : decide ((a + b) * (1 + 1) ≤ limit) = true := decide_eq_true (by show (a + b) * (1 + 1) ≤ 140737488355328; omega)
def hexv (c : UInt8) : Option Nat := if 48 ≤ c.toNat ∧ c.toNat ≤ 57 then some (c.toNat - 48) else if 97 ≤ c.toNat ∧ c.toNat ≤ 102 then some (c.toNat - 87) else if 65 ≤ c.toNat ∧ c.toNat ≤ 70 then some (c.toNat - 55) else none
theorem hexv_lt : ∀ (c : UInt8) (v : Nat), hexv c = some v → v < 16 := by
  intro c v h
  unfold hexv at h
  repeat' split at h
  all_goals first | (cases h; done) | (cases h; omega)
def hv (c : UInt8) : Int := match hexv c with | some v => v | none => 16
def hb (c : UInt8) : Int × Bool := match hexv c with | some v => (v, true) | none => (0, false)
theorem hq : ∀ c : UInt8, quote_hex (c.toNat : Int) = hb c := byte_all (by decide +kernel)
theorem pairq : ∀ v : Nat, v < 16 → ∀ w : Nat, w < 16 → (IntKind.wrap .u8 ((BitVec.ofInt (IntKind.bits .u8) (IntKind.wrap .u8 ((v : Int) * 2 ^ (min (Int.toNat 4) (IntKind.bits .u8)))) ||| BitVec.ofInt (IntKind.bits .u8) (w : Int)).toNat)) = (((UInt8.ofNat (v * 16 + w)).toNat : Nat) : Int) := by decide +kernel
def uesc : List UInt8 → Option (UInt8 × Nat)
  | [] => none
  | d :: r =>
    if d = 92 ∨ d = 34 then some (d, 2) else if d = 110 then some (10, 2) else if d = 116 then some (9, 2)
    else if d = 120 then (match r with | x :: y :: _ => (match hexv x, hexv y with | some v, some w => some (UInt8.ofNat (v * 16 + w), 4) | _, _ => none) | _ => none) else none
def ures (o : Option (UInt8 × Nat)) : Int × Int := match o with | some (b, l) => ((b.toNat : Int), (l : Int)) | none => (0, 0)
theorem escape_eq (n : Nat) (x : UInt8) (t : List UInt8) : quote_escape n (x :: t) = some (ures (uesc t)) := by
  unfold quote_escape
  cases t with
  | nil => rfl
  | cons d r =>
    have h2 : decide ((List.length (x :: d :: r) : Int) < 2) = false := decide_eq_false (by simp only [List.length_cons]; omega)
    have h1 : decide (0 ≤ (1 : Int) ∧ (1 : Int) < (List.length (x :: d :: r) : Int)) = true := decide_eq_true (by simp only [List.length_cons]; omega)
    have g1 : ((x :: d :: r)[Int.toNat 1]?.getD 0) = d := rfl
    rw [h2, if_neg Bool.false_ne_true, if_pos h1, g1]
    unfold quote_escape_j1 quote_escape_j2
    rw [b92, b34, b110, b116, b120, h1, g1]
    unfold uesc
    by_cases c92 : d = 92
    · subst c92; rfl
    · by_cases c34 : d = 34
      · subst c34; rfl
      · by_cases c110 : d = 110
        · subst c110; rfl
        · by_cases c116 : d = 116
          · subst c116; rfl
          · by_cases c120 : d = 120
            · subst c120
              cases r with
              | nil => rfl
              | cons y r =>
                cases r with
                | nil => rfl
                | cons z r =>
                  have h4 : decide ((List.length (x :: 120 :: y :: z :: r) : Int) < 4) = false := decide_eq_false (by simp only [List.length_cons]; omega)
                  have i2 : decide (0 ≤ (2 : Int) ∧ (2 : Int) < (List.length (x :: 120 :: y :: z :: r) : Int)) = true := decide_eq_true (by simp only [List.length_cons]; omega)
                  have i3 : decide (0 ≤ (3 : Int) ∧ (3 : Int) < (List.length (x :: 120 :: y :: z :: r) : Int)) = true := decide_eq_true (by simp only [List.length_cons]; omega)
                  have g2 : ((x :: 120 :: y :: z :: r)[Int.toNat 2]?.getD 0) = y := rfl
                  have g3 : ((x :: 120 :: y :: z :: r)[Int.toNat 3]?.getD 0) = z := rfl
                  rw [h4, i2, i3, g2, g3]
                  simp only [lett, hq, hb]
                  cases hy : hexv y with
                  | none => simp [ures]
                  | some v =>
                    cases hz : hexv z with
                    | none => simp [ures]
                    | some w =>
                      have := pairq v (hexv_lt _ _ hy) w (hexv_lt _ _ hz)
                      simp only [this]
                      simp [ures]
            · simp [c92, c34, c110, c116, c120, ures]
theorem uesc_len {t : List UInt8} {b : UInt8} {l : Nat} (h : uesc t = some (b, l)) : 2 ≤ l ∧ l ≤ 4 ∧ l ≤ t.length + 1 := by
  cases t with
  | nil => cases h
  | cons d r =>
    cases r with
    | nil =>
      simp only [uesc] at h
      repeat' split at h
      all_goals first | (cases h; done) | (cases h; simp only [List.length_cons]; omega)
    | cons y r =>
      cases r with
      | nil =>
        simp only [uesc] at h
        repeat' split at h
        all_goals first | (cases h; done) | (cases h; simp only [List.length_cons]; omega)
      | cons z r =>
        simp only [uesc] at h
        repeat' split at h
        all_goals first | (cases h; done) | (cases h; simp only [List.length_cons]; omega)
theorem byte_rt (b : UInt8) : decide (0 ≤ (b.toNat : Int) ∧ (b.toNat : Int) < 256) = true ∧ UInt8.ofNat (Int.toNat (b.toNat : Int)) = b := by
  have := b.toNat_lt
  refine ⟨decide_eq_true (by omega), ?_⟩
  simp
theorem q34 (n k : Nat) (s acc : List UInt8) (i : Nat) (hs : s.length ≤ 100000000) (ha : acc.length ≤ 100000000) (h : i < s.length) : quote_Scan_l1 n s 34 (k + 1) (i : Int) acc =
    if good s[i] = false then some (.inl ()) else if s[i] = 34 then some (.inr (acc, ((i + 1 : Nat) : Int), 0))
    else if s[i] = 92 then (match uesc (s.drop (i + 1)) with | none => some (.inr ([], 0, 3)) | some (b, l) => quote_Scan_l1 n s 34 k ((i + l : Nat) : Int) (acc ++ [b]))
    else quote_Scan_l1 n s 34 k ((i + 1 : Nat) : Int) (acc ++ [s[i]]) := by
  rw [quote_Scan_l1]
  have hle : decide (0 ≤ (i : Int) ∧ (i : Int) ≤ (List.length s : Int)) = true := decide_eq_true (by omega)
  have hf : ∀ b : UInt8, decide ((List.length acc + List.length [b]) * (1 + 1) ≤ limit) = true := fun b => fits9 (by simp; omega)
  have e39 : ∀ c : UInt8, (bif ((c.toNat : Int) == 39) then ((34 : Int) == (c.toNat : Int)) else false) = false := byte_all (by decide +kernel)
  have hdrop : List.drop (Int.toNat (i : Int)) s = s[i] :: s.drop (i + 1) := drop_at h
  have hesc := escape_eq n s[i] (s.drop (i + 1))
  simp only [in_i h, lt_i h, at_i h, ok_good, e39, lett, hle, hdrop, hesc, b34, b92, wrap_s i (by omega), hf, Bool.or_true, if_true, cond_true, cond_false, Option.bind_some]
  cases hg : good s[i] with
  | false => simp
  | true =>
    by_cases c34 : s[i] = 34
    · simp [c34]
    · by_cases c92 : s[i] = 92
      · cases hu : uesc (s.drop (i + 1)) with
        | none => simp [c92, ures]
        | some p =>
          obtain ⟨b, l⟩ := p
          have hl := uesc_len hu
          have hw : IntKind.wrap .i64 ((i : Int) + (l : Int)) = ((i + l : Nat) : Int) := PL.wrap_add _ _ (by omega)
          have hl0 : ((l : Int) == 0) = false := by rw [beq_eq_false_iff_ne]; omega
          obtain ⟨r1, r2⟩ := byte_rt b
          generalize hJ : ((i + l : Nat) : Int) = J at hw
          generalize quote_Scan_l1 n s 34 k = f
          simp only [c92]
          have e2 : ¬ ((92 : UInt8) = 34) := by decide
          have e1 : ¬ (decide ((92 : UInt8) = 34) = true) := by decide
          have e3 : ∀ q : Bool, ((!false == true || q)) = true := fun _ => rfl
          have e4 : (bif decide True then (34 : Int) == 34 else false) = true := rfl
          have e5 : ¬ (true = false) := by decide
          rw [if_neg e5, if_neg e2, if_pos trivial, if_pos trivial, if_pos (e3 _), if_neg Bool.false_ne_true, if_neg e1, if_pos e4]
          refine (if_neg (show ¬ (((l : Int) == 0) = true) from by rw [hl0]; exact Bool.false_ne_true)).trans ?_
          refine (if_pos r1).trans ?_
          show f (IntKind.wrap .i64 ((i : Int) + (l : Int))) (acc ++ [UInt8.ofNat (Int.toNat (b.toNat : Int))]) = _
          rw [hw, r2, hJ]
      · simp [c34, c92]
theorem q39 (n k : Nat) (s acc : List UInt8) (i : Nat) (hs : s.length ≤ 100000000) (ha : acc.length ≤ 100000000) (h : i < s.length) : quote_Scan_l1 n s 39 (k + 1) (i : Int) acc =
    if good s[i] = false then some (.inl ()) else if s[i] = 39 then (if (if h' : i + 1 < s.length then s[i + 1] == 39 else false) = true then quote_Scan_l1 n s 39 k ((i + 2 : Nat) : Int) (acc ++ [39]) else some (.inr (acc, ((i + 1 : Nat) : Int), 0)))
    else quote_Scan_l1 n s 39 k ((i + 1 : Nat) : Int) (acc ++ [s[i]]) := by
  rw [quote_Scan_l1]
  have hf : ∀ b : UInt8, decide ((List.length acc + List.length [b]) * (1 + 1) ≤ limit) = true := fun b => fits9 (by simp; omega)
  have e39 : ∀ c : UInt8, (bif ((c.toNat : Int) == 39) then ((39 : Int) == (c.toNat : Int)) else false) = decide (c = 39) := byte_all (by decide +kernel)
  have e92 : ∀ c : UInt8, (bif ((c.toNat : Int) == 92) then ((39 : Int) == 34) else false) = false := byte_all (by decide +kernel)
  simp only [in_i h, lt_i h, at_i h, ok_good, e39, e92, lett, b39, wrap_s i (by omega), wrap_s2 i (by omega), hf, Bool.or_true, if_true, cond_true]
  cases hg : good s[i] with
  | false => simp
  | true =>
    by_cases c39 : s[i] = 39
    · by_cases h' : i + 1 < s.length
      · have l1 : decide (((i + 1 : Nat) : Int) < (s.length : Int)) = true := lt_i h'
        have i1 := in_i h'
        have g1 := at_i (d := (0 : UInt8)) h'
        generalize ((i + 1 : Nat) : Int) = J at l1 i1 g1
        cases hx : s[i + 1] == 39 with
        | true => simp only [c39, l1, i1, g1, dif_pos h', hx, beq_bytes]; simp [hx]
        | false => simp only [c39, l1, i1, g1, dif_pos h', hx, beq_bytes]; simp [hx]
      · have l1 : decide (((i + 1 : Nat) : Int) < (s.length : Int)) = false := nlt_i (Nat.not_lt.1 h')
        generalize ((i + 1 : Nat) : Int) = J at l1
        simp only [c39, l1, dif_neg h']; simp
    · simp [c39]
theorem q_end (n k : Nat) (s acc : List UInt8) (v : Int) (i : Nat) (h : s.length ≤ i) : quote_Scan_l1 n s v (k + 1) (i : Int) acc = some (.inl ()) := by
  rw [quote_Scan_l1]
  simp only [nlt_i h]
  simp
def finq (r : Sum Unit (List UInt8 × Int × Int)) : List UInt8 × Int × Int := match r with | .inl _ => ([], 0, 3) | .inr o => o
theorem scan_open (n : Nat) (S : List UInt8) (i : Nat) (hS : S.length ≤ 100000000) (h : i < S.length) (hc : S[i] = 34 ∨ S[i] = 39) : quote_Scan n S (i : Int) = (quote_Scan_l1 n S (S[i].toNat : Int) n ((i + 1 : Nat) : Int) []).bind fun o => some (finq o) := by
  unfold quote_Scan
  have d1 : decide ((i : Int) < 0) = false := decide_eq_false (by omega)
  have d2 : decide ((i : Int) ≥ (S.length : Int)) = false := decide_eq_false (by omega)
  have n34 : ((S[i].toNat : Int) != 34) = !(decide (S[i] = 34)) := by rw [← b34]; rfl
  have n39 : ((S[i].toNat : Int) != 39) = !(decide (S[i] = 39)) := by rw [← b39]; rfl
  simp only [d1, d2, in_i h, at_i h, n34, n39, lett, wrap_s i (by omega), Bool.or_true, if_true, cond_false]
  have hx : (bif !decide (S[i] = 34) then !decide (S[i] = 39) else false) = false := by
    rcases hc with hc | hc <;> rw [hc] <;> decide
  rw [hx, if_neg Bool.false_ne_true]
  congr 1
  funext o
  cases o <;> rfl
theorem hr : ∀ c : UInt8, ref06_value (c.toNat : Int) = hv c := byte_all (by decide +kernel)
theorem pairr : ∀ v : Nat, v < 16 → ∀ w : Nat, w < 16 → (IntKind.wrap .u8 ((IntKind.wrap .i64 ((IntKind.wrap .i64 ((v : Int) * 16)) + (w : Int))))) = (((UInt8.ofNat (v * 16 + w)).toNat : Nat) : Int) := by decide +kernel
theorem r34 (n k : Nat) (s acc : List UInt8) (i : Nat) (hs : s.length ≤ 100000) (ha : acc.length ≤ 100000) (h : i < s.length) : ref06_double_l1 n s (k + 1) (i : Int) acc =
    if good s[i] = false then some (.inr ([], 0, false)) else if s[i] = 34 then some (.inr (acc, ((i + 1 : Nat) : Int), true))
    else if s[i] = 92 then (match uesc (s.drop (i + 1)) with | none => some (.inr ([], 0, false)) | some (b, l) => ref06_double_l1 n s k ((i + l : Nat) : Int) (acc ++ [b]))
    else ref06_double_l1 n s k ((i + 1 : Nat) : Int) (acc ++ [s[i]]) := by
  rw [ref06_double_l1]
  have hf : ∀ b : UInt8, decide ((List.length acc + List.length [b]) * (1 + 1) ≤ limit) = true := fun b => fits (by simp; omega)
  have e92 : ((s[i].toNat : Int) != 92) = !(decide (s[i] = 92)) := by rw [← b92]; rfl
  have w3 : IntKind.wrap .i64 ((i : Int) + 3) = ((i + 3 : Nat) : Int) := PL.wrap_add i 3 (by omega)
  have w4 : IntKind.wrap .i64 ((i : Int) + 4) = ((i + 4 : Nat) : Int) := PL.wrap_add i 4 (by omega)
  rw [if_pos (lt_i h), if_pos (in_i h), at_i h, Good_good, b34, e92, hf, hf, wrap_s i (by omega), wrap_s2 i (by omega), w3, w4]
  cases hg : good s[i] with
  | false => simp
  | true =>
    by_cases c34 : s[i] = 34
    · simp [c34]
    · by_cases c92 : s[i] = 92
      · simp only [c34, c92, decide_true, decide_false, Bool.not_true, Bool.false_eq_true, if_false, if_true, Bool.true_eq_false]
        by_cases h1 : i + 1 < s.length
        · have n1 : decide (((i + 1 : Nat) : Int) ≥ (s.length : Int)) = false := decide_eq_false (by omega)
          have i1 := in_i h1
          have g1 := at_i (d := (0 : UInt8)) h1
          have hd1 := drop_at h1
          rw [n1, i1, g1, hd1]
          generalize s[i + 1] = d
          simp only [lett, b92, b34, b110, b116, b120, hf]
          unfold uesc
          by_cases d92 : d = 92
          · subst d92; simp
          · by_cases d34 : d = 34
            · subst d34; simp
            · by_cases d110 : d = 110
              · subst d110; simp
              · by_cases d116 : d = 116
                · subst d116; simp
                · by_cases d120 : d = 120
                  · subst d120
                    by_cases h3 : i + 3 < s.length
                    · have h2 : i + 2 < s.length := by omega
                      have l3 : decide (((i + 3 : Nat) : Int) < (s.length : Int)) = true := lt_i h3
                      have i2 := in_i h2
                      have i3 := in_i h3
                      have g2 := at_i (d := (0 : UInt8)) h2
                      have g3 := at_i (d := (0 : UInt8)) h3
                      have hd2 := drop_at h2
                      have hd3 := drop_at h3
                      rw [l3, i2, i3, g2, g3, hd2, hd3]
                      generalize s[i + 2] = y
                      generalize s[i + 3] = z
                      simp only [hr, hv]
                      cases hy : hexv y with
                      | none => simp
                      | some v =>
                        have v16 := hexv_lt _ _ hy
                        have vd : decide ((v : Int) < 16) = true := decide_eq_true (by omega)
                        cases hz : hexv z with
                        | none => simp [vd]
                        | some w =>
                          have w16 := hexv_lt _ _ hz
                          have wd : decide ((w : Int) < 16) = true := decide_eq_true (by omega)
                          obtain ⟨r1, r2⟩ := byte_rt (UInt8.ofNat (v * 16 + w))
                          simp only [vd, wd, pairr v v16 w w16, r1, r2, hf]
                          simp
                    · have l3 : decide (((i + 3 : Nat) : Int) < (s.length : Int)) = false := nlt_i (Nat.not_lt.1 h3)
                      rw [l3]
                      have hnone : (match s.drop (i + 1 + 1) with | x :: y :: _ => (match hexv x, hexv y with | some v, some w => some (UInt8.ofNat (v * 16 + w), 4) | _, _ => none) | _ => (none : Option (UInt8 × Nat))) = none := by
                        have hl : (s.drop (i + 1 + 1)).length ≤ 1 := by simp; omega
                        match s.drop (i + 1 + 1), hl with
                        | [], _ => rfl
                        | [_], _ => rfl
                      simp only [hnone]
                      simp
                  · simp [d92, d34, d110, d116, d120]
        · have n1 : decide (((i + 1 : Nat) : Int) ≥ (s.length : Int)) = true := decide_eq_true (by omega)
          rw [n1, List.drop_eq_nil_of_le (by omega)]
          simp [uesc]
      · simp [c34, c92]
theorem r39 (n k : Nat) (s acc : List UInt8) (i : Nat) (hs : s.length ≤ 100000) (ha : acc.length ≤ 100000) (h : i < s.length) : ref06_single_l1 n s (k + 1) (i : Int) acc =
    if good s[i] = false then some (.inr ([], 0, false)) else if s[i] = 39 then (if (if h' : i + 1 < s.length then s[i + 1] == 39 else false) = true then ref06_single_l1 n s k ((i + 2 : Nat) : Int) (acc ++ [39]) else some (.inr (acc, ((i + 1 : Nat) : Int), true)))
    else ref06_single_l1 n s k ((i + 1 : Nat) : Int) (acc ++ [s[i]]) := by
  rw [ref06_single_l1]
  have hf : ∀ b : UInt8, decide ((List.length acc + List.length [b]) * (1 + 1) ≤ limit) = true := fun b => fits (by simp; omega)
  rw [if_pos (lt_i h), if_pos (in_i h), at_i h, Good_good, b39]
  cases hg : good s[i] with
  | false => simp
  | true =>
    unfold ref06_single_j2
    rw [wrap_s i (by omega)]
    by_cases c39 : s[i] = 39
    · by_cases h' : i + 1 < s.length
      · have n1 : decide (((i + 1 : Nat) : Int) ≥ (s.length : Int)) = false := decide_eq_false (by omega)
        have i1 := in_i h'
        have g1 := at_i (d := (0 : UInt8)) h'
        have w2 : IntKind.wrap .i64 (((i + 1 : Nat) : Int) + 1) = ((i + 2 : Nat) : Int) := wrap_s (i + 1) (by omega)
        have e39 : ((s[i + 1].toNat : Int) != 39) = !(s[i + 1] == 39) := by rw [← byte_eq, ← b39]; rfl
        generalize ((i + 1 : Nat) : Int) = J at n1 i1 g1 w2
        cases hx : s[i + 1] == 39 with
        | true =>
          have hx' : s[i + 1] = 39 := by simpa using hx
          have i1p := of_decide_eq_true i1
          rw [hx'] at g1
          have g1' := g1
          generalize ((i + 2 : Nat) : Int) = J2 at w2 ⊢
          have h39 : ((39 : UInt8).toNat : Int) = 39 := rfl
          have hfit := of_decide_eq_true (hf 39)
          simp only [c39, n1, i1, g1, dif_pos h', hx', lett, w2, hf]
          simp [i1p, g1, w2, h', hx', h]
          have hb : J.toNat < s.length := by omega
          have : s[J.toNat] = 39 := by simpa [hb] using g1
          rw [this]
        | false => simp only [c39, n1, i1, g1, e39, hx, dif_pos h', lett]; simp [h]
      · have n1 : decide (((i + 1 : Nat) : Int) ≥ (s.length : Int)) = true := decide_eq_true (by omega)
        generalize ((i + 1 : Nat) : Int) = J at n1
        simp only [c39, n1, dif_neg h', lett]; simp [h]
    · have i0 := in_i h
      have g0 := at_i (d := (0 : UInt8)) h
      have w0 := wrap_s i (by omega)
      generalize (i : Int) = I at i0 g0 w0
      generalize ((i + 1 : Nat) : Int) = J at w0
      have i0p := of_decide_eq_true i0
      simp only [c39, i0, g0, w0, hf]; simp [i0p, g0, w0]
      have hb : I.toNat < s.length := by omega
      have : s[I.toNat] = s[i] := by simpa [hb] using g0
      rw [this]
def Nx (s : List UInt8) (i : Nat) (o : List UInt8 × Int × Int) : Prop := o.2.2 = 0 → ∃ j : Nat, o.2.1 = (j : Int) ∧ i < j ∧ j ≤ s.length ∧ (s[j - 1]?.getD 0) ≠ 32
theorem Nx.le {s : List UInt8} {i i' : Nat} {o : List UInt8 × Int × Int} (h : Nx s i' o) (hi : i ≤ i') : Nx s i o := fun e => let ⟨j, h1, h2, h3, h4⟩ := h e; ⟨j, h1, by omega, h3, h4⟩
def finr (r : Sum Unit (List UInt8 × Int × Bool)) : List UInt8 × Int × Int := match r with | .inl _ => ([], 0, 3) | .inr o => if o.2.2 = false then ([], 0, 3) else (o.1, o.2.1, 0)
theorem scan34 (n : Nat) (s : List UInt8) (hs : s.length ≤ 10000) : ∀ (k i : Nat) (acc : List UInt8), s.length < k + i → acc.length ≤ i → ∃ r r', quote_Scan_l1 n s 34 (k + 1) (i : Int) acc = some r ∧ ref06_double_l1 n s (k + 1) (i : Int) acc = some r' ∧ finq r = finr r' ∧ Nx s i (finq r)
  | k, i, acc, h1, h2 => by
    by_cases h : i < s.length
    · rw [q34 n k s acc i (by omega) (by omega) h, r34 n k s acc i (by omega) (by omega) h]
      obtain ⟨k, rfl⟩ : ∃ k', k = k' + 1 := ⟨k - 1, by omega⟩
      cases hg : good s[i] with
      | false => exact ⟨_, _, if_pos rfl, if_pos rfl, rfl, fun e => by cases e⟩
      | true =>
        simp only [Bool.true_eq_false, if_false]
        by_cases c34 : s[i] = 34
        · rw [if_pos c34, if_pos c34]; exact ⟨_, _, rfl, rfl, rfl, fun _ => ⟨i + 1, rfl, by omega, by omega, by simp [h, c34]⟩⟩
        · rw [if_neg c34, if_neg c34]
          by_cases c92 : s[i] = 92
          · rw [if_pos c92, if_pos c92]
            cases hu : uesc (s.drop (i + 1)) with
            | none => exact ⟨_, _, rfl, rfl, rfl, fun e => by cases e⟩
            | some p =>
              obtain ⟨b, l⟩ := p
              have hl := uesc_len hu
              obtain ⟨r, r', h3, h4, h5, h6⟩ := scan34 n s hs k (i + l) (acc ++ [b]) (by omega) (by simp; omega)
              exact ⟨r, r', h3, h4, h5, h6.le (by omega)⟩
          · rw [if_neg c92, if_neg c92]
            obtain ⟨r, r', h3, h4, h5, h6⟩ := scan34 n s hs k (i + 1) (acc ++ [s[i]]) (by omega) (by simp; omega)
            exact ⟨r, r', h3, h4, h5, h6.le (by omega)⟩
    · refine ⟨.inl (), .inl (), q_end n k s acc 34 i (by omega), ?_, rfl, fun e => by cases e⟩
      rw [ref06_double_l1]
      simp only [nlt_i (Nat.not_lt.1 h)]; simp
  termination_by k => k
theorem scan39 (n : Nat) (s : List UInt8) (hs : s.length ≤ 10000) : ∀ (k i : Nat) (acc : List UInt8), s.length < k + i → acc.length ≤ i → ∃ r r', quote_Scan_l1 n s 39 (k + 1) (i : Int) acc = some r ∧ ref06_single_l1 n s (k + 1) (i : Int) acc = some r' ∧ finq r = finr r' ∧ Nx s i (finq r)
  | k, i, acc, h1, h2 => by
    by_cases h : i < s.length
    · rw [q39 n k s acc i (by omega) (by omega) h, r39 n k s acc i (by omega) (by omega) h]
      obtain ⟨k, rfl⟩ : ∃ k', k = k' + 1 := ⟨k - 1, by omega⟩
      cases hg : good s[i] with
      | false => exact ⟨_, _, if_pos rfl, if_pos rfl, rfl, fun e => by cases e⟩
      | true =>
        simp only [Bool.true_eq_false, if_false]
        by_cases c39 : s[i] = 39
        · rw [if_pos c39, if_pos c39]
          generalize (if h' : i + 1 < s.length then s[i + 1] == 39 else false) = bb
          cases bb with
          | true =>
            simp only [if_true]
            obtain ⟨r, r', h3, h4, h5, h6⟩ := scan39 n s hs k (i + 2) (acc ++ [39]) (by omega) (by simp; omega)
            exact ⟨r, r', h3, h4, h5, h6.le (by omega)⟩
          | false => exact ⟨_, _, rfl, rfl, rfl, fun _ => ⟨i + 1, rfl, by omega, by omega, by simp [h, c39]⟩⟩
        · rw [if_neg c39, if_neg c39]
          obtain ⟨r, r', h3, h4, h5, h6⟩ := scan39 n s hs k (i + 1) (acc ++ [s[i]]) (by omega) (by simp; omega)
          exact ⟨r, r', h3, h4, h5, h6.le (by omega)⟩
    · refine ⟨.inl (), .inl (), q_end n k s acc 39 i (by omega), ?_, rfl, fun e => by cases e⟩
      rw [ref06_single_l1]
      simp only [nlt_i (Nat.not_lt.1 h)]; simp
  termination_by k => k
theorem scan_eq (n : Nat) (s : List UInt8) (at_ : Int) (hs : s.length ≤ 10000) (hn : 20000 ≤ n) (hat : IntKind.min .i64 ≤ at_ ∧ at_ ≤ IntKind.max .i64) : ∃ r, quote_Scan n s at_ = some r ∧ ref06_Scan n s at_ = some r ∧ Nx s at_.toNat r := by
  obtain ⟨n, rfl⟩ : ∃ m, n = m + 1 := ⟨n - 1, by omega⟩
  unfold quote_Scan ref06_Scan
  by_cases hin : 0 ≤ at_ ∧ at_ < (s.length : Int)
  · obtain ⟨i, rfl⟩ : ∃ i : Nat, at_ = (i : Int) := ⟨at_.toNat, by omega⟩
    have h : i < s.length := by omega
    have d1 : decide ((i : Int) < 0) = false := decide_eq_false (by omega)
    have d2 : decide ((i : Int) ≥ (s.length : Int)) = false := decide_eq_false (by omega)
    have n34 : ((s[i].toNat : Int) != 34) = !(decide (s[i] = 34)) := by rw [← b34]; rfl
    have n39 : ((s[i].toNat : Int) != 39) = !(decide (s[i] = 39)) := by rw [← b39]; rfl
    simp only [d1, d2, in_i h, at_i h, n34, n39, lett, wrap_s i (by omega), Bool.or_true, if_true, cond_false]
    unfold ref06_Scan_j1 ref06_double ref06_single
    simp only [b34, wrap_s i (by omega)]
    by_cases c34 : s[i] = 34
    · obtain ⟨r, r', h1, h2, h3, h5⟩ := scan34 (n + 1) s hs n (i + 1) [] (by omega) (by simp)
      rw [c34]
      have h1 : quote_Scan_l1 (n + 1) s ((34 : UInt8).toNat : Int) (n + 1) ((i + 1 : Nat) : Int) [] = some r := h1
      simp only [h1, h2, decide_true, Bool.not_true, cond_false, Bool.false_eq_true, if_false, if_true, Option.bind_some]
      refine ⟨finq r, ?_, ?_, h5.le (by simp)⟩
      · cases r <;> rfl
      · rw [h3]
        cases r' with
        | inl _ => rfl
        | inr o => obtain ⟨o1, o2, o3⟩ := o; cases o3 <;> rfl
    · by_cases c39 : s[i] = 39
      · obtain ⟨r, r', h1, h2, h3, h5⟩ := scan39 (n + 1) s hs n (i + 1) [] (by omega) (by simp)
        rw [c39]
        have h1 : quote_Scan_l1 (n + 1) s ((39 : UInt8).toNat : Int) (n + 1) ((i + 1 : Nat) : Int) [] = some r := h1
        have e1 : decide ((39 : UInt8) = 34) = false := by decide
        have e2 : decide ((39 : UInt8) = 39) = true := by decide
        simp only [h1, h2, e1, e2, Bool.not_true, Bool.not_false, cond_true, Bool.false_eq_true, if_false, Option.bind_some]
        refine ⟨finq r, ?_, ?_, h5.le (by simp)⟩
        · cases r <;> rfl
        · rw [h3]
          cases r' with
          | inl _ => rfl
          | inr o => obtain ⟨o1, o2, o3⟩ := o; cases o3 <;> rfl
      · exact ⟨([], 0, 2), by simp [c34, c39], by simp [c34, c39], fun e => by cases e⟩
  · have d : (bif (decide (at_ < 0)) then true else (decide (at_ ≥ (List.length s : Int)))) = true := by
      by_cases h0 : at_ < 0
      · simp [h0]
      · have : at_ ≥ (s.length : Int) := by omega
        simp [h0, this]
    exact ⟨([], 0, 2), by simp only [d, lett]; simp, by simp only [d, lett]; simp, fun e => by cases e⟩
def ind (l : BS) : Nat := (l.takeWhile (· == 32)).length
theorem ind_le (l : BS) : ind l ≤ l.length := by
  unfold ind
  have := List.takeWhile_append_dropWhile (p := fun c : UInt8 => c == 32) (l := l)
  have h := congrArg List.length this
  rw [List.length_append] at h; omega
theorem drop_ind (l : BS) : l.drop (ind l) = l.dropWhile (· == 32) := by
  have := List.takeWhile_append_dropWhile (p := fun c : UInt8 => c == 32) (l := l)
  have h2 : (l.takeWhile (· == 32) ++ l.dropWhile (· == 32)).drop (ind l) = l.dropWhile (· == 32) := List.drop_left
  rwa [this] at h2
theorem ind_cons (c : UInt8) (l : BS) : ind (c :: l) = if c = 32 then ind l + 1 else 0 := by
  unfold ind
  by_cases h : c = 32
  · subst h; simp
  · rw [if_neg h, List.takeWhile_cons]; simp [h]
def quo (c b : UInt8) : Bool := (decide (c = 34) || decide (c = 39)) && (decide (b = 32) || decide (b = 91) || decide (b = 123) || decide (b = 44))
def rem (c b : UInt8) : Bool := decide (c = 35) && decide (b = 32)
def rowOf (s : BS) : BS × BS := match upto 10 s with | none => (s, []) | some p => p
inductive Sp (n : Nat) : BS → Nat → List S_line_Line → Prop
  | nil (no : Nat) : Sp n [] no []
  | skip (s : BS) (no : Nat) (ls : List S_line_Line) (hs : s ≠ []) (h : line_say n ((rowOf s).1.drop (ind (rowOf s).1)) = some ([], true)) (hr : Sp n (rowOf s).2 (no + 1) ls) : Sp n s no ls
  | line (s : BS) (no : Nat) (t : BS) (ls : List S_line_Line) (hs : s ≠ []) (ht : t ≠ []) (h : line_say n ((rowOf s).1.drop (ind (rowOf s).1)) = some (t, true)) (hb : ¬ (ind (rowOf s).1 = 0 ∧ (t = [45, 45, 45] ∨ t = [46, 46, 46]))) (hr : Sp n (rowOf s).2 (no + 1) ls) :
      Sp n s no (S_line_Line.mk ((no + 1 : Nat) : Int) ((ind (rowOf s).1 : Nat) : Int) t :: ls)
end Go.Proofs.YtefojkdckfidcaaGreatDoor.M
