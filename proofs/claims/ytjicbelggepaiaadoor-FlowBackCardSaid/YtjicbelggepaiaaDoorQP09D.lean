/-
  Part of the proof of FlowBack: P09D.
-/
import Derived.Test.YtjicbelggepaiaaDoorQP09C
set_option linter.all false
namespace Go.Proofs.YtjicbelggepaiaaDoor.M
open Go Go.Proofs.YtjicbelggepaiaaDoor.RX Go.Proofs.YtjicbelggepaiaaDoor.PL
set_option maxRecDepth 100000
theorem fits9 {a b : Nat} (h : a + b ≤ 1000000000) : decide ((a + b) * (1 + 1) ≤ limit) = true := decide_eq_true (by show (a + b) * (1 + 1) ≤ 140737488355328; omega)
def hexv (c : UInt8) : Option Nat := if 48 ≤ c.toNat ∧ c.toNat ≤ 57 then some (c.toNat - 48) else if 97 ≤ c.toNat ∧ c.toNat ≤ 102 then some (c.toNat - 87) else if 65 ≤ c.toNat ∧ c.toNat ≤ 70 then some (c.toNat - 55) else none
theorem hexv_lt : ∀ (c : UInt8) (v : Nat), hexv c = some v → v < 16 := by
  intro c v h
  unfold hexv at h
  repeat' split at h
  all_goals first | (cases h; done) | (cases h; omega)
def hv (c : UInt8) : Int := match hexv c with | some v => v | none => 16
def hb (c : UInt8) : Int × Bool := match hexv c with | some v => (v, true) | none => (0, false)
theorem hq : ∀ c : UInt8, quote_hex (c.toNat : Int) = hb c := byte_all (by decide +kernel)
theorem pairq : ∀ v : Nat, v < 16 → ∀ w : Nat, w < 16 → (IntKind.wrap .u8 ((BitVec.ofInt (IntKind.bits .u8) (IntKind.wrap .u8 ((v : Int) * 2 ^ (min (Int.toNat 4) (IntKind.bits .u8)))) ||| BitVec.ofInt (IntKind.bits .u8) (w : Int)).toNat)) = (((UInt8.ofNat (v * 16 + w)).toNat : Nat) : Int) := by decide +kernel
def uesc : List UInt8 → Option (UInt8 × Nat)
  | [] => none
  | d :: r =>
    if d = 92 ∨ d = 34 then some (d, 2) else if d = 110 then some (10, 2) else if d = 116 then some (9, 2)
    else if d = 120 then (match r with | x :: y :: _ => (match hexv x, hexv y with | some v, some w => some (UInt8.ofNat (v * 16 + w), 4) | _, _ => none) | _ => none) else none
def ures (o : Option (UInt8 × Nat)) : Int × Int := match o with | some (b, l) => ((b.toNat : Int), (l : Int)) | none => (0, 0)
theorem escape_eq (n : Nat) (x : UInt8) (t : List UInt8) : quote_escape n (x :: t) = some (ures (uesc t)) := by
  unfold quote_escape
  cases t with
  | nil => rfl
  | cons d r =>
    have h2 : decide ((List.length (x :: d :: r) : Int) < 2) = false := decide_eq_false (by simp only [List.length_cons]; omega)
    have h1 : decide (0 ≤ (1 : Int) ∧ (1 : Int) < (List.length (x :: d :: r) : Int)) = true := decide_eq_true (by simp only [List.length_cons]; omega)
    have g1 : ((x :: d :: r)[Int.toNat 1]?.getD 0) = d := rfl
    rw [h2, if_neg Bool.false_ne_true, if_pos h1, g1]
    unfold quote_escape_j1 quote_escape_j2
    rw [b92, b34, b110, b116, b120, h1, g1]
    unfold uesc
    by_cases c92 : d = 92
    · subst c92; rfl
    · by_cases c34 : d = 34
      · subst c34; rfl
      · by_cases c110 : d = 110
        · subst c110; rfl
        · by_cases c116 : d = 116
          · subst c116; rfl
          · by_cases c120 : d = 120
            · subst c120
              cases r with
              | nil => rfl
              | cons y r =>
                cases r with
                | nil => rfl
                | cons z r =>
                  have h4 : decide ((List.length (x :: 120 :: y :: z :: r) : Int) < 4) = false := decide_eq_false (by simp only [List.length_cons]; omega)
                  have i2 : decide (0 ≤ (2 : Int) ∧ (2 : Int) < (List.length (x :: 120 :: y :: z :: r) : Int)) = true := decide_eq_true (by simp only [List.length_cons]; omega)
                  have i3 : decide (0 ≤ (3 : Int) ∧ (3 : Int) < (List.length (x :: 120 :: y :: z :: r) : Int)) = true := decide_eq_true (by simp only [List.length_cons]; omega)
                  have g2 : ((x :: 120 :: y :: z :: r)[Int.toNat 2]?.getD 0) = y := rfl
                  have g3 : ((x :: 120 :: y :: z :: r)[Int.toNat 3]?.getD 0) = z := rfl
                  rw [h4, i2, i3, g2, g3]
                  simp only [lett, hq, hb]
                  cases hy : hexv y with
                  | none => simp [ures]
                  | some v =>
                    cases hz : hexv z with
                    | none => simp [ures]
                    | some w =>
                      have := pairq v (hexv_lt _ _ hy) w (hexv_lt _ _ hz)
                      simp only [this]
                      simp [ures]
            · simp [c92, c34, c110, c116, c120, ures]
theorem uesc_len {t : List UInt8} {b : UInt8} {l : Nat} (h : uesc t = some (b, l)) : 2 ≤ l ∧ l ≤ 4 ∧ l ≤ t.length + 1 := by
  cases t with
  | nil => cases h
  | cons d r =>
    cases r with
    | nil =>
      simp only [uesc] at h
      repeat' split at h
      all_goals first | (cases h; done) | (cases h; simp only [List.length_cons]; omega)
    | cons y r =>
      cases r with
      | nil =>
        simp only [uesc] at h
        repeat' split at h
        all_goals first | (cases h; done) | (cases h; simp only [List.length_cons]; omega)
      | cons z r =>
        simp only [uesc] at h
        repeat' split at h
        all_goals first | (cases h; done) | (cases h; simp only [List.length_cons]; omega)
theorem byte_rt (b : UInt8) : decide (0 ≤ (b.toNat : Int) ∧ (b.toNat : Int) < 256) = true ∧ UInt8.ofNat (Int.toNat (b.toNat : Int)) = b := by
  have := b.toNat_lt
  refine ⟨decide_eq_true (by omega), ?_⟩
  simp
theorem q34 (n k : Nat) (s acc : List UInt8) (i : Nat) (hs : s.length ≤ 100000000) (ha : acc.length ≤ 100000000) (h : i < s.length) : quote_Scan_l1 n s 34 (k + 1) (i : Int) acc =
    if good s[i] = false then some (.inl ()) else if s[i] = 34 then some (.inr (acc, ((i + 1 : Nat) : Int), 0))
    else if s[i] = 92 then (match uesc (s.drop (i + 1)) with | none => some (.inr ([], 0, 3)) | some (b, l) => quote_Scan_l1 n s 34 k ((i + l : Nat) : Int) (acc ++ [b]))
    else quote_Scan_l1 n s 34 k ((i + 1 : Nat) : Int) (acc ++ [s[i]]) := by
  rw [quote_Scan_l1]
  have hle : decide (0 ≤ (i : Int) ∧ (i : Int) ≤ (List.length s : Int)) = true := decide_eq_true (by omega)
  have hf : ∀ b : UInt8, decide ((List.length acc + List.length [b]) * (1 + 1) ≤ limit) = true := fun b => fits9 (by simp; omega)
  have e39 : ∀ c : UInt8, (bif ((c.toNat : Int) == 39) then ((34 : Int) == (c.toNat : Int)) else false) = false := byte_all (by decide +kernel)
  have hdrop : List.drop (Int.toNat (i : Int)) s = s[i] :: s.drop (i + 1) := drop_at h
  have hesc := escape_eq n s[i] (s.drop (i + 1))
  simp only [in_i h, lt_i h, at_i h, ok_good, e39, lett, hle, hdrop, hesc, b34, b92, wrap_s i (by omega), hf, Bool.or_true, if_true, cond_true, cond_false, Option.bind_some]
  cases hg : good s[i] with
  | false => simp
  | true =>
    by_cases c34 : s[i] = 34
    · simp [c34]
    · by_cases c92 : s[i] = 92
      · cases hu : uesc (s.drop (i + 1)) with
        | none => simp [c92, ures]
        | some p =>
          obtain ⟨b, l⟩ := p
          have hl := uesc_len hu
          have hw : IntKind.wrap .i64 ((i : Int) + (l : Int)) = ((i + l : Nat) : Int) := PL.wrap_add _ _ (by omega)
          have hl0 : ((l : Int) == 0) = false := by rw [beq_eq_false_iff_ne]; omega
          obtain ⟨r1, r2⟩ := byte_rt b
          generalize hJ : ((i + l : Nat) : Int) = J at hw
          generalize quote_Scan_l1 n s 34 k = f
          simp only [c92]
          have e2 : ¬ ((92 : UInt8) = 34) := by decide
          have e1 : ¬ (decide ((92 : UInt8) = 34) = true) := by decide
          have e3 : ∀ q : Bool, ((!false == true || q)) = true := fun _ => rfl
          have e4 : (bif decide True then (34 : Int) == 34 else false) = true := rfl
          have e5 : ¬ (true = false) := by decide
          rw [if_neg e5, if_neg e2, if_pos trivial, if_pos trivial, if_pos (e3 _), if_neg Bool.false_ne_true, if_neg e1, if_pos e4]
          refine (if_neg (show ¬ (((l : Int) == 0) = true) from by rw [hl0]; exact Bool.false_ne_true)).trans ?_
          refine (if_pos r1).trans ?_
          show f (IntKind.wrap .i64 ((i : Int) + (l : Int))) (acc ++ [UInt8.ofNat (Int.toNat (b.toNat : Int))]) = _
          rw [hw, r2, hJ]
      · simp [c34, c92]
theorem q39 (n k : Nat) (s acc : List UInt8) (i : Nat) (hs : s.length ≤ 100000000) (ha : acc.length ≤ 100000000) (h : i < s.length) : quote_Scan_l1 n s 39 (k + 1) (i : Int) acc =
    if good s[i] = false then some (.inl ()) else if s[i] = 39 then (if (if h' : i + 1 < s.length then s[i + 1] == 39 else false) = true then quote_Scan_l1 n s 39 k ((i + 2 : Nat) : Int) (acc ++ [39]) else some (.inr (acc, ((i + 1 : Nat) : Int), 0)))
    else quote_Scan_l1 n s 39 k ((i + 1 : Nat) : Int) (acc ++ [s[i]]) := by
  rw [quote_Scan_l1]
  have hf : ∀ b : UInt8, decide ((List.length acc + List.length [b]) * (1 + 1) ≤ limit) = true := fun b => fits9 (by simp; omega)
  have e39 : ∀ c : UInt8, (bif ((c.toNat : Int) == 39) then ((39 : Int) == (c.toNat : Int)) else false) = decide (c = 39) := byte_all (by decide +kernel)
  have e92 : ∀ c : UInt8, (bif ((c.toNat : Int) == 92) then ((39 : Int) == 34) else false) = false := byte_all (by decide +kernel)
  simp only [in_i h, lt_i h, at_i h, ok_good, e39, e92, lett, b39, wrap_s i (by omega), wrap_s2 i (by omega), hf, Bool.or_true, if_true, cond_true]
  cases hg : good s[i] with
  | false => simp
  | true =>
    by_cases c39 : s[i] = 39
    · by_cases h' : i + 1 < s.length
      · have l1 : decide (((i + 1 : Nat) : Int) < (s.length : Int)) = true := lt_i h'
        have i1 := in_i h'
        have g1 := at_i (d := (0 : UInt8)) h'
        generalize ((i + 1 : Nat) : Int) = J at l1 i1 g1
        cases hx : s[i + 1] == 39 with
        | true => simp only [c39, l1, i1, g1, dif_pos h', hx, beq_bytes]; simp [hx]
        | false => simp only [c39, l1, i1, g1, dif_pos h', hx, beq_bytes]; simp [hx]
      · have l1 : decide (((i + 1 : Nat) : Int) < (s.length : Int)) = false := nlt_i (Nat.not_lt.1 h')
        generalize ((i + 1 : Nat) : Int) = J at l1
        simp only [c39, l1, dif_neg h']; simp
    · simp [c39]
theorem q_end (n k : Nat) (s acc : List UInt8) (v : Int) (i : Nat) (h : s.length ≤ i) : quote_Scan_l1 n s v (k + 1) (i : Int) acc = some (.inl ()) := by
  rw [quote_Scan_l1]
  simp only [nlt_i h]
  simp
def finq (r : Sum Unit (List UInt8 × Int × Int)) : List UInt8 × Int × Int := match r with | .inl _ => ([], 0, 3) | .inr o => o
theorem scan_open (n : Nat) (S : List UInt8) (i : Nat) (hS : S.length ≤ 100000000) (h : i < S.length) (hc : S[i] = 34 ∨ S[i] = 39) : quote_Scan n S (i : Int) = (quote_Scan_l1 n S (S[i].toNat : Int) n ((i + 1 : Nat) : Int) []).bind fun o => some (finq o) := by
  unfold quote_Scan
  have d1 : decide ((i : Int) < 0) = false := decide_eq_false (by omega)
  have d2 : decide ((i : Int) ≥ (S.length : Int)) = false := decide_eq_false (by omega)
  have n34 : ((S[i].toNat : Int) != 34) = !(decide (S[i] = 34)) := by rw [← b34]; rfl
  have n39 : ((S[i].toNat : Int) != 39) = !(decide (S[i] = 39)) := by rw [← b39]; rfl
  simp only [d1, d2, in_i h, at_i h, n34, n39, lett, wrap_s i (by omega), Bool.or_true, if_true, cond_false]
  have hx : (bif !decide (S[i] = 34) then !decide (S[i] = 39) else false) = false := by
    rcases hc with hc | hc <;> rw [hc] <;> decide
  rw [hx, if_neg Bool.false_ne_true]
  congr 1
  funext o
  cases o <;> rfl
theorem drop_cons {S : List UInt8} {i : Nat} {x : UInt8} {r : List UInt8} (h : S.drop i = x :: r) : ∃ hi : i < S.length, S[i] = x ∧ S.drop (i + 1) = r := by
  have hi : i < S.length := by
    rcases Nat.lt_or_ge i S.length with h1 | h1
    · exact h1
    · rw [List.drop_eq_nil_of_le h1] at h; cases h
  rw [List.drop_eq_getElem_cons hi] at h
  exact ⟨hi, (List.cons.inj h).1, (List.cons.inj h).2⟩
theorem drop_more {S r : List UInt8} {i : Nat} {p : List UInt8} (h : S.drop i = p ++ r) : S.drop (i + p.length) = r := by
  rw [← List.drop_drop, h, List.drop_left]
theorem hexv_hexd : ∀ d, d < 16 → hexv (hexd d) = some d := by decide +kernel
theorem back34 (n : Nat) (S behind : List UInt8) (hS : S.length ≤ 100000000) : ∀ (u : List UInt8) (k i : Nat) (acc : List UInt8), u.length < k → acc.length + u.length ≤ 100000000 → S.drop i = u.flatMap esc ++ 34 :: behind →
    quote_Scan_l1 n S 34 k (i : Int) acc = some (.inr (acc ++ u, ((i + (u.flatMap esc).length + 1 : Nat) : Int), 0))
  | [], k, i, acc, hk, ha, hd => by
    obtain ⟨k, rfl⟩ : ∃ k', k = k' + 1 := ⟨k - 1, by omega⟩
    obtain ⟨hi, h1, h2⟩ := drop_cons (by simpa using hd : S.drop i = 34 :: behind)
    have hg : good S[i] ≠ false := by rw [h1]; decide
    rw [q34 n k S acc i hS (by simp at ha; omega) hi, if_neg hg, if_pos h1]
    simp
  | c :: u, k, i, acc, hk, ha, hd => by
    obtain ⟨k, rfl⟩ : ∃ k', k = k' + 1 := ⟨k - 1, by omega⟩
    simp only [List.length_cons] at hk ha
    rw [List.flatMap_cons, List.append_assoc] at hd
    have hmore := drop_more hd
    have hesc : ∀ (b : UInt8) (l : Nat) (t : List UInt8), esc c = 92 :: t → uesc (t ++ (u.flatMap esc ++ 34 :: behind)) = some (c, l) → (esc c).length = l →
        quote_Scan_l1 n S 34 (k + 1) (i : Int) acc = some (.inr (acc ++ c :: u, ((i + ((c :: u).flatMap esc).length + 1 : Nat) : Int), 0)) := by
      intro b l t he hu hl
      rw [he] at hd
      obtain ⟨hi, h1, h2⟩ := drop_cons (show S.drop i = 92 :: (t ++ (u.flatMap esc ++ 34 :: behind)) from hd)
      have hg : good S[i] ≠ false := by rw [h1]; decide
      have h34 : S[i] ≠ 34 := by rw [h1]; decide
      rw [q34 n k S acc i hS (by omega) hi, if_neg hg, if_neg h34, if_pos h1, h2, hu]
      simp only
      rw [hl] at hmore
      rw [back34 n S behind hS u k (i + l) (acc ++ [c]) (by omega) (by simp; omega) hmore]
      have hlen : ((c :: u).flatMap esc).length = l + (u.flatMap esc).length := by rw [List.flatMap_cons, List.length_append, hl]
      rw [hlen, List.append_assoc, show i + l + (u.flatMap esc).length + 1 = i + (l + (u.flatMap esc).length) + 1 by omega]
      rfl
    by_cases h1 : c = 34 ∨ c = 92
    · exact hesc c 2 [c] (by simp [esc, h1]) (by
        rcases h1 with rfl | rfl <;> rfl) (by simp [esc, h1])
    · by_cases h2 : c = 10
      · subst h2; exact hesc 10 2 [110] rfl rfl rfl
      · by_cases h3 : c = 9
        · subst h3; exact hesc 9 2 [116] rfl rfl rfl
        · by_cases h4 : good c = false
          · have he : esc c = [92, 120, hexd (c.toNat / 16), hexd (c.toNat % 16)] := by simp [esc, h1, h2, h3, h4]
            have hb := c.toNat_lt
            refine hesc c 4 [120, hexd (c.toNat / 16), hexd (c.toNat % 16)] he ?_ (by rw [he]; rfl)
            have e1 := hexv_hexd (c.toNat / 16) (by omega)
            have e2 := hexv_hexd (c.toNat % 16) (by omega)
            show (match hexv (hexd (c.toNat / 16)), hexv (hexd (c.toNat % 16)) with | some v, some w => some (UInt8.ofNat (v * 16 + w), 4) | _, _ => none) = some (c, 4)
            rw [e1, e2]
            simp only [Nat.div_add_mod', UInt8.ofNat_toNat]
          · have he : esc c = [c] := by simp [esc, h1, h2, h3, h4]
            rw [he] at hd
            obtain ⟨hi, g1, g2⟩ := drop_cons hd
            have h34 : S[i] ≠ 34 := by rw [g1]; exact fun e => h1 (.inl e)
            have h92 : S[i] ≠ 92 := by rw [g1]; exact fun e => h1 (.inr e)
            rw [q34 n k S acc i hS (by omega) hi, if_neg (by rw [g1]; exact h4), if_neg h34, if_neg h92, g1]
            rw [back34 n S behind hS u k (i + 1) (acc ++ [c]) (by omega) (by simp; omega) g2]
            have hlen : ((c :: u).flatMap esc).length = 1 + (u.flatMap esc).length := by rw [List.flatMap_cons, List.length_append, he]; rfl
            rw [hlen, List.append_assoc, show i + 1 + (u.flatMap esc).length + 1 = i + (1 + (u.flatMap esc).length) + 1 by omega]
            rfl
def blk9 : BS → Nat
  | [] => 0
  | c :: r => if c = 32 then blk9 r + 1 else 0
def hd9 : BS → Int
  | [] => 0
  | c :: _ => (c.toNat : Int)
theorem blk9_le : ∀ l : BS, blk9 l ≤ l.length
  | [] => Nat.le_refl 0
  | c :: r => by unfold blk9; have := blk9_le r; split <;> simp <;> omega
theorem blk9_drop (S : BS) (i : Nat) (h : i ≤ S.length) : i + blk9 (S.drop i) ≤ S.length := by
  have := blk9_le (S.drop i)
  rw [List.length_drop] at this; omega
theorem next_l (n : Nat) (S : BS) (bad : Bool) (hS : S.length ≤ 100000000) : ∀ (k i : Nat), i ≤ S.length → S.length - i < k → flow_reader_next__o0_l1 n k (S_flow_reader.mk S (i : Int) bad) = some (S_flow_reader.mk S ((i + blk9 (S.drop i) : Nat) : Int) bad)
  | 0, i, _, h => by omega
  | k + 1, i, h1, h2 => by
    rw [flow_reader_next__o0_l1]
    by_cases h : i < S.length
    · simp only [lt_i h, in_i h, at_i h, Bool.or_true, if_true, lett, cond_true, b32]
      rw [drop_at h]
      unfold blk9
      by_cases hc : S[i] = 32
      · rw [if_pos (decide_eq_true hc), if_pos hc, wrap_s i (by omega), next_l n S bad hS k (i + 1) (by omega) (by omega)]
        congr 2
        omega
      · rw [if_neg (by simpa using hc), if_neg hc]; rfl
    · have : i = S.length := by omega
      subst this
      simp only [nlt_n]
      rw [List.drop_eq_nil_of_le (Nat.le_refl _)]
      rfl
theorem next_eq (n : Nat) (S : BS) (bad : Bool) (i : Nat) (hS : S.length ≤ 100000000) (hn : S.length < n) (hi : i ≤ S.length) : flow_reader_next__o0 n (S_flow_reader.mk S (i : Int) bad) = some (hd9 (S.drop (i + blk9 (S.drop i))), S_flow_reader.mk S ((i + blk9 (S.drop i) : Nat) : Int) bad) := by
  have hb := blk9_drop S i hi
  unfold flow_reader_next__o0
  rw [next_l n S bad hS n i hi (by omega), Option.bind_some]
  simp only
  generalize i + blk9 (S.drop i) = j at hb ⊢
  by_cases h : j < S.length
  · have e : ((j : Int) == (S.length : Int)) = false := by rw [beq_eq_false_iff_ne]; omega
    rw [e, in_i h, at_i h, drop_at h]; rfl
  · have : j = S.length := by omega
    subst this
    rw [List.drop_eq_nil_of_le (Nat.le_refl _), if_pos (by simp)]; rfl
theorem take_eq (n : Nat) (S : BS) (bad : Bool) (i : Nat) (c : Int) (hS : S.length ≤ 100000000) (hn : S.length < n) (hi : i ≤ S.length) : flow_reader_take__o0 n c (S_flow_reader.mk S (i : Int) bad) =
    some (if hd9 (S.drop (i + blk9 (S.drop i))) = c then (true, S_flow_reader.mk S ((i + blk9 (S.drop i) + 1 : Nat) : Int) bad) else (false, S_flow_reader.mk S ((i + blk9 (S.drop i) : Nat) : Int) bad)) := by
  have hb := blk9_drop S i hi
  unfold flow_reader_take__o0
  rw [next_eq n S bad i hS hn hi, Option.bind_some]
  simp only
  generalize i + blk9 (S.drop i) = j at hb ⊢
  by_cases h : hd9 (S.drop j) = c
  · rw [if_pos h, if_neg (by rw [h]; simp), wrap_s j (by omega)]
  · rw [if_neg h, if_pos (by simpa using h)]
theorem hd_in {S : BS} {j : Nat} {c : Int} (h : hd9 (S.drop j) = c) (hc : c ≠ 0) : j < S.length := by
  rcases Nat.lt_or_ge j S.length with h1 | h1
  · exact h1
  · rw [List.drop_eq_nil_of_le h1] at h; exact (hc h.symm).elim
theorem take_tot (n : Nat) (S : BS) (bad : Bool) (i : Nat) (c : Int) (hc : c ≠ 0) (hS : S.length ≤ 100000000) (hn : S.length < n) (hi : i ≤ S.length) : ∃ (b : Bool) (j : Nat), flow_reader_take__o0 n c (S_flow_reader.mk S (i : Int) bad) = some (b, S_flow_reader.mk S (j : Int) bad) ∧ (i ≤ j ∧ j ≤ S.length) ∧ (b = true → i < j) := by
  have hb := blk9_drop S i hi
  rw [take_eq n S bad i c hS hn hi]
  split
  · rename_i h
    have := hd_in h hc
    exact ⟨true, _, rfl, ⟨by omega, by omega⟩, fun _ => by omega⟩
  · exact ⟨false, _, rfl, ⟨by omega, by omega⟩, fun h => by cases h⟩
theorem scan_tot (n : Nat) (S : BS) (hS : S.length ≤ 100000000) (q : Int) (hq : q = 34 ∨ q = 39) : ∀ (k i : Nat) (acc : BS), S.length < k + i → acc.length ≤ i → acc.length ≤ S.length → ∃ r, quote_Scan_l1 n S q (k + 1) (i : Int) acc = some r ∧ (r = .inl () ∨ r = .inr ([], 0, 3) ∨ ∃ (t : BS) (j : Nat), r = .inr (t, (j : Int), 0) ∧ i < j ∧ j ≤ S.length ∧ t.length ≤ S.length)
  | k, i, acc, h1, h2, h3 => by
    by_cases h : i < S.length
    · obtain ⟨k, rfl⟩ : ∃ m, k = m + 1 := ⟨k - 1, by omega⟩
      rcases hq with rfl | rfl
      · rw [q34 n (k + 1) S acc i hS (by omega) h]
        split
        · exact ⟨_, rfl, .inl rfl⟩
        split
        · exact ⟨_, rfl, .inr (.inr ⟨acc, i + 1, rfl, by omega, by omega, h3⟩)⟩
        split
        · cases hu : uesc (S.drop (i + 1)) with
          | none => exact ⟨_, rfl, .inr (.inl rfl)⟩
          | some p =>
            obtain ⟨b, l⟩ := p
            have hl := uesc_len hu
            rw [List.length_drop] at hl
            obtain ⟨r, g1, g2⟩ := scan_tot n S hS 34 (.inl rfl) k (i + l) (acc ++ [b]) (by omega) (by simp; omega) (by simp; omega)
            refine ⟨r, g1, ?_⟩
            rcases g2 with g2 | g2 | ⟨t, j, g2, g3, g4⟩
            · exact .inl g2
            · exact .inr (.inl g2)
            · exact .inr (.inr ⟨t, j, g2, by omega, g4⟩)
        · obtain ⟨r, g1, g2⟩ := scan_tot n S hS 34 (.inl rfl) k (i + 1) (acc ++ [S[i]]) (by omega) (by simp; omega) (by simp; omega)
          refine ⟨r, g1, ?_⟩
          rcases g2 with g2 | g2 | ⟨t, j, g2, g3, g4⟩
          · exact .inl g2
          · exact .inr (.inl g2)
          · exact .inr (.inr ⟨t, j, g2, by omega, g4⟩)
      · rw [q39 n (k + 1) S acc i hS (by omega) h]
        split
        · exact ⟨_, rfl, .inl rfl⟩
        split
        · by_cases hx : (if h' : i + 1 < S.length then S[i + 1] == 39 else false) = true
          · rw [if_pos hx]
            have hi2 : i + 1 < S.length := by
              by_cases h' : i + 1 < S.length
              · exact h'
              · rw [dif_neg h'] at hx; cases hx
            obtain ⟨r, g1, g2⟩ := scan_tot n S hS 39 (.inr rfl) k (i + 2) (acc ++ [39]) (by omega) (by simp; omega) (by simp; omega)
            refine ⟨r, g1, ?_⟩
            rcases g2 with g2 | g2 | ⟨t, j, g2, g3, g4⟩
            · exact .inl g2
            · exact .inr (.inl g2)
            · exact .inr (.inr ⟨t, j, g2, by omega, g4⟩)
          · rw [if_neg hx]
            exact ⟨_, rfl, .inr (.inr ⟨acc, i + 1, rfl, by omega, by omega, h3⟩)⟩
        · obtain ⟨r, g1, g2⟩ := scan_tot n S hS 39 (.inr rfl) k (i + 1) (acc ++ [S[i]]) (by omega) (by simp; omega) (by simp; omega)
          refine ⟨r, g1, ?_⟩
          rcases g2 with g2 | g2 | ⟨t, j, g2, g3, g4⟩
          · exact .inl g2
          · exact .inr (.inl g2)
          · exact .inr (.inr ⟨t, j, g2, by omega, g4⟩)
    · rw [q_end n k S acc q i (by omega)]
      exact ⟨_, rfl, .inl rfl⟩
theorem Scan_tot (n : Nat) (S : BS) (i : Nat) (hS : S.length ≤ 100000000) (hn : S.length + 1 < n) (h : i < S.length) (hc : S[i] = 34 ∨ S[i] = 39) : quote_Scan n S (i : Int) = some ([], 0, 3) ∨ ∃ (t : BS) (j : Nat), quote_Scan n S (i : Int) = some (t, (j : Int), 0) ∧ i < j ∧ j ≤ S.length ∧ t.length ≤ S.length := by
  obtain ⟨m, rfl⟩ : ∃ m, n = m + 1 := ⟨n - 1, by omega⟩
  rw [scan_open (m + 1) S i hS h hc]
  have hq : (S[i].toNat : Int) = 34 ∨ (S[i].toNat : Int) = 39 := by
    rcases hc with hc | hc <;> rw [hc]
    · exact .inl rfl
    · exact .inr rfl
  obtain ⟨r, g1, g2⟩ := scan_tot (m + 1) S hS _ hq m (i + 1) [] (by omega) (Nat.zero_le _) (Nat.zero_le _)
  rw [g1, Option.bind_some]
  rcases g2 with rfl | rfl | ⟨t, j, rfl, g3, g4⟩
  · exact .inl rfl
  · exact .inl rfl
  · exact .inr ⟨t, j, rfl, by omega, g4⟩
def sp6 : BS := [32, 44, 91, 93, 123, 125]
theorem ix6 : ∀ c : UInt8, decide ((Lib.indexByte ([32, 44, 91, 93, 123, 125] : List UInt8) (Int.toNat (c.toNat : Int)).toUInt8) ≥ 0) = sp6.contains c := byte_all (by decide +kernel)
def pl9 : BS → Nat
  | [] => 0
  | c :: r => if (sp5.contains c || (c == 58 && (match r with | [] => true | d :: _ => sp6.contains d))) = true then 0 else pl9 r + 1
theorem ite_le {c : Prop} [Decidable c] {a b m : Nat} (h1 : a ≤ m) (h2 : b ≤ m) : (if c then a else b) ≤ m := by split <;> assumption
theorem pl9_le : ∀ l : BS, pl9 l ≤ l.length
  | [] => Nat.le_refl 0
  | c :: r => by
    have := pl9_le r
    unfold pl9
    exact ite_le (Nat.zero_le _) (by rw [List.length_cons]; omega)
theorem plain_l (n : Nat) (v : Int) (S : BS) (bad : Bool) (hS : S.length ≤ 100000000) : ∀ (k i : Nat), i ≤ S.length → S.length - i < k → flow_reader_plain__o0_l1 n v k (S_flow_reader.mk S (i : Int) bad) = some (S_flow_reader.mk S ((i + pl9 (S.drop i) : Nat) : Int) bad)
  | 0, i, _, h => by omega
  | k + 1, i, h1, h2 => by
    rw [flow_reader_plain__o0_l1]
    by_cases h : i < S.length
    · rw [drop_at h]
      unfold pl9
      simp only [lt_i h, in_i h, at_i h, ix5, b58, if_true, lett, wrap_s i (by omega), eq_i, byte_eq]
      by_cases h' : i + 1 < S.length
      · have e1 : decide (i + 1 = S.length) = false := decide_eq_false (by omega)
        rw [drop_at h']
        simp only [e1, in_i h', at_i h', ix6, Bool.or_true, if_true, cond_false]
        have ec : (bif sp5.contains S[i] then true else bif S[i] == 58 then sp6.contains S[i + 1] else false) = (sp5.contains S[i] || (S[i] == 58 && sp6.contains S[i + 1])) := by
          cases sp5.contains S[i] <;> cases (S[i] == 58) <;> rfl
        rw [ec]
        by_cases hc : (sp5.contains S[i] || (S[i] == 58 && sp6.contains S[i + 1])) = true
        · rw [if_pos hc, if_pos hc]; rfl
        · rw [if_neg hc, if_neg hc, plain_l n v S bad hS k (i + 1) (by omega) (by omega), drop_at h']
          congr 2
          omega
      · have e1 : decide (i + 1 = S.length) = true := decide_eq_true (by omega)
        rw [List.drop_eq_nil_of_le (by omega : S.length ≤ i + 1)]
        have ec : (bif sp5.contains S[i] then true else bif S[i] == 58 then true else false) = (sp5.contains S[i] || (S[i] == 58 && true)) := by
          cases sp5.contains S[i] <;> cases (S[i] == 58) <;> rfl
        simp only [e1, cond_true, ec, Bool.false_and, Bool.not_false, Bool.true_or, if_true, show (true == false) = false from rfl]
        by_cases hc : (sp5.contains S[i] || (S[i] == 58 && true)) = true
        · rw [if_pos hc, if_pos hc]; rfl
        · rw [if_neg hc, if_neg hc, plain_l n v S bad hS k (i + 1) (by omega) (by omega), List.drop_eq_nil_of_le (by omega : S.length ≤ i + 1)]
          rfl
    · have : i = S.length := by omega
      subst this
      rw [nlt_n, List.drop_eq_nil_of_le (Nat.le_refl _)]
      rfl
theorem plain_read (n : Nat) (S : BS) (bad : Bool) (i : Nat) (hS : S.length ≤ 100000000) (hn : S.length < n) (hi : i ≤ S.length) : flow_reader_plain__o0 n (S_flow_reader.mk S (i : Int) bad) = some (Lib.trimRightB ((S.drop i).take (pl9 (S.drop i))) 32, S_flow_reader.mk S ((i + pl9 (S.drop i) : Nat) : Int) bad) := by
  have hp := pl9_le (S.drop i)
  rw [List.length_drop] at hp
  unfold flow_reader_plain__o0
  simp only
  rw [plain_l n _ S bad hS n i hi (by omega), Option.bind_some]
  simp only [tn]
  have e : i + pl9 (S.drop i) - i = pl9 (S.drop i) := by omega
  rw [if_pos (le_i (by omega)), if_pos (le_ij (by omega)), e, if_pos (decide_eq_true (by rw [List.length_take, List.length_drop]; omega))]
theorem dropWhile_le {α : Type} (p : α → Bool) : ∀ l : List α, (l.dropWhile p).length ≤ l.length
  | [] => Nat.le_refl 0
  | x :: l => by rw [List.dropWhile_cons]; have := dropWhile_le p l; split <;> simp <;> omega
theorem trim_le (l : BS) (c : UInt8) : (Lib.trimRightB l c).length ≤ l.length := by
  unfold Lib.trimRightB
  rw [List.length_reverse]
  have := dropWhile_le (· == c) l.reverse
  rwa [List.length_reverse] at this
end Go.Proofs.YtjicbelggepaiaaDoor.M
