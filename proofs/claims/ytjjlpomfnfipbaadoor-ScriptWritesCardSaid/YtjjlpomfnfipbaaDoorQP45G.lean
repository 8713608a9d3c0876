import Derived.Test.YtjjlpomfnfipbaaDoorQP45F
set_option linter.all false
namespace Go.Proofs.YtjjlpomfnfipbaaDoor.M
open Go Go.Proofs.YtjjlpomfnfipbaaDoor.RX Go.Proofs.YtjjlpomfnfipbaaDoor.PL
def tl (l : List BS) : BS := l.flatMap fun w => 32 :: w
def jw : List BS → BS | [] => [] | w :: r => w ++ tl r
theorem tl_nil : tl [] = [] := rfl
theorem tl_cons (w : BS) (r : List BS) : tl (w :: r) = 32 :: (w ++ tl r) := by unfold tl; simp
theorem tl_app (a b : List BS) : tl (a ++ b) = tl a ++ tl b := by unfold tl; simp
theorem joinTail_eq : ∀ r : List BS, Lib.joinTail [32] r = tl r
  | [] => by simp [Lib.joinTail, tl]
  | w :: r => by
    have := joinTail_eq r
    rw [tl_cons, ← this]
    simp [Lib.joinTail]
theorem join_jw (l : List BS) : Lib.join l [32] = jw l := by
  cases l with
  | nil => exact Lib.join_nil _
  | cons w r => rw [Lib.join_cons, joinTail_eq]; rfl
theorem tl_len (m : Nat) : ∀ l : List BS, (∀ x ∈ l, x.length ≤ m) → (tl l).length ≤ l.length * (m + 1)
  | [], _ => by simp [tl]
  | w :: r, h => by
    have h1 := h w (by simp)
    have h2 := tl_len m r fun x hx => h x (by simp [hx])
    rw [tl_cons]
    simp only [List.length_cons, List.length_append, Nat.add_mul]
    omega
def optW (a : BS) (v : Int) : List BS := if v = 0 then [] else [a, txI v]
def flgW (a : BS) (b : Bool) : List BS := if b = true then [a] else []
def cmdW (k : Int) : BS := if 1 ≤ k ∧ k ≤ 6 then cmds[(k - 1).toNat]?.getD [] else []
def callW (c : Cl) : List BS :=
  if c.f_Kind = 1 then [MN, c.f_Name, c.f_Spec.f_Project] else if c.f_Kind = 2 then [MV, c.f_Name, c.f_Spec.f_Project] else if c.f_Kind = 3 then [DN, c.f_Name] else if c.f_Kind = 4 then [DV, c.f_Name]
  else if c.f_Kind = 5 then [[109, 97, 107, 101], c.f_Spec.f_Name] else if c.f_Kind = 6 then [[115, 116, 97, 114, 116], txI c.f_Id] else if c.f_Kind = 7 then [[115, 116, 111, 112], txI c.f_Id] else if c.f_Kind = 8 then [[100, 114, 111, 112], txI c.f_Id] else [[63]]
def svW (x : St) : List BS := x.f_Command.f_Services ++ optW [45, 110] x.f_Command.f_Count ++ flgW [45, 111] x.f_Command.f_Orphans ++ flgW [45, 118] x.f_Command.f_Volumes ++ optW [45, 116] x.f_Command.f_Timeout ++ optW [45, 114] x.f_Command.f_Retries
def wds (x : St) : List BS :=
  if x.f_Kind = 2 then [[103, 111]] else if x.f_Kind = 8 then [[99, 114, 97, 115, 104]] else if x.f_Kind = 3 then [[116, 105, 99, 107], txI x.f_N] else if x.f_Kind = 5 then [[115, 105, 99, 107], txI x.f_N]
  else if x.f_Kind = 6 then [[119, 101, 108, 108], txI x.f_N] else if x.f_Kind = 4 then [[101, 120, 105, 116], txI x.f_N, txI x.f_M] else if x.f_Kind = 7 then [[102, 97, 117, 108, 116], txI x.f_N, txI x.f_M]
  else if x.f_Kind = 9 then [99, 97, 108, 108] :: callW x.f_Call else cmdW x.f_Command.f_Kind :: txI x.f_N :: svW x
def wr (x : St) : BS := jw (wds x)
def I64 (v : Int) : Prop := -9223372036854775808 ≤ v ∧ v ≤ 9223372036854775807
structure Bd (x : St) : Prop where
  n : I64 x.f_N
  m : I64 x.f_M
  c : I64 x.f_Command.f_Count
  t : I64 x.f_Command.f_Timeout
  r : I64 x.f_Command.f_Retries
  i : I64 x.f_Call.f_Id
  sl : x.f_Command.f_Services.length ≤ 5000
  s : ∀ w ∈ x.f_Command.f_Services, w.length ≤ 10000
  nm : x.f_Call.f_Name.length ≤ 40000
  sn : x.f_Call.f_Spec.f_Name.length ≤ 40000
  pj : x.f_Call.f_Spec.f_Project.length ≤ 40000
theorem txI_len (v : Int) : (txI v).length ≤ 20 := by
  unfold txI
  split
  · have := dg_len 18 (-v).toNat []
    simp only [List.length_cons, List.length_nil] at this ⊢; omega
  · have := dg_len 19 v.toNat []
    simp only [List.length_nil] at this; omega
theorem optW_len (a : BS) (v : Int) : (optW a v).length ≤ 2 := by unfold optW; split <;> simp
theorem flgW_len (a : BS) (v : Bool) : (flgW a v).length ≤ 1 := by unfold flgW; split <;> simp
theorem capW {l m : List BS} (h : l.length + m.length ≤ 1000000) : decide ((List.length l + List.length m) * (16 + 1) ≤ limit) = true := decide_eq_true (by show (l.length + m.length) * (16 + 1) ≤ 140737488355328; omega)
theorem eCmdW (n : Nat) (k : Int) : event_Command n k = some (cmdW k) := by
  by_cases h : 1 ≤ k ∧ k ≤ 6
  · obtain ⟨i, rfl, hi⟩ : ∃ i : Nat, k = ((i + 1 : Nat) : Int) ∧ i < 6 := ⟨(k - 1).toNat, by omega, by omega⟩
    obtain ⟨c, hc⟩ : ∃ c, cmds[i]? = some c := ⟨cmds[i]'(by show i < 6; exact hi), List.getElem?_eq_getElem _⟩
    rw [eCommand n i c hc]
    unfold cmdW
    rw [if_pos h, show (((i + 1 : Nat) : Int) - 1).toNat = i by omega, hc]; rfl
  · unfold event_Command event_one cmdW
    have : (bif (decide (k < 1)) then true else (decide (k > ((6 : Nat) : Int)))) = true := by
      by_cases h1 : k < 1
      · rw [decide_eq_true h1]; rfl
      · rw [decide_eq_false h1, cond_false]; exact decide_eq_true (by omega)
    rw [if_neg h, if_pos (by exact this)]; rfl
theorem one_eq (n : Nat) (a : BS) (v : Int) (l : List BS) (hv : I64 v) (hl : l.length ≤ 100000) (hn : 100 ≤ n) : script_write_1__o0 n a v l = some (l ++ optW a v) := by
  unfold script_write_1__o0 optW
  by_cases h : v = 0
  · rw [if_neg (by simp [h]), if_pos h, List.append_nil]
  · rw [if_pos (by simpa using h), if_neg h, dtextI_eq n v hv.1 hv.2 hn, Option.bind_some, if_pos (capW (by simp; omega))]
theorem wj2_eq (n : Nat) (b : Bool) (c : Cm) (l : List BS) (hl : l.length ≤ 100000) : script_write_j2 n b c l = some (l ++ flgW [45, 111] b) := by
  unfold script_write_j2 flgW
  cases b with
  | false => simp
  | true => rw [if_pos rfl, if_pos rfl, if_pos (capW (by simp; omega))]
theorem wj3_eq (n : Nat) (b : Bool) (c : Cm) (l : List BS) (hl : l.length ≤ 100000) : script_write_j3 n b c l = some (l ++ flgW [45, 118] b) := by
  unfold script_write_j3 flgW
  cases b with
  | false => simp
  | true => rw [if_pos rfl, if_pos rfl, if_pos (capW (by simp; omega))]
def callT (c : Cl) : BS :=
  if c.f_Kind = 1 then MN ++ [32] ++ c.f_Name else if c.f_Kind = 2 then MV ++ [32] ++ c.f_Name else if c.f_Kind = 3 then DN ++ [32] ++ c.f_Name else if c.f_Kind = 4 then DV ++ [32] ++ c.f_Name
  else if c.f_Kind = 5 then [109, 97, 107, 101] ++ [32] ++ c.f_Spec.f_Name else if c.f_Kind = 6 then [115, 116, 97, 114, 116] ++ [32] ++ txI c.f_Id else if c.f_Kind = 7 then [115, 116, 111, 112] ++ [32] ++ txI c.f_Id else if c.f_Kind = 8 then [100, 114, 111, 112] ++ [32] ++ txI c.f_Id else [63]
theorem evOne (n i : Nat) (l : List BS) (c : BS) (h : l[i]? = some c) (hl : l.length ≤ 1000) : event_one n ((i + 1 : Nat) : Int) l = some c := by
  have hi : i < l.length := by
    apply Classical.byContradiction; intro hc
    rw [List.getElem?_eq_none (by omega)] at h; cases h
  unfold event_one
  have h1 : decide (((i + 1 : Nat) : Int) < 1) = false := decide_eq_false (by omega)
  have h2 : decide (((i + 1 : Nat) : Int) > (l.length : Int)) = false := decide_eq_false (by omega)
  have h3 : IntKind.wrap .i64 (((i + 1 : Nat) : Int) - 1) = (i : Int) := by rw [wrap_id _ (by omega) (by omega)]; omega
  rw [h1, h2, h3, in_i hi, tn, h]
  rfl
theorem eCall (n : Nat) (c : Cl) (hi : I64 c.f_Id) (h1 : c.f_Name.length ≤ 40000) (h2 : c.f_Spec.f_Name.length ≤ 40000) (hn : 100 ≤ n) : event_Call n c = some (callT c) := by
  obtain ⟨k, nm, id, sp⟩ := c
  simp only at hi h1 h2
  have ht := txI_len id
  unfold event_Call callT
  simp only
  by_cases h : 1 ≤ k ∧ k ≤ 8
  · have : k = 1 ∨ k = 2 ∨ k = 3 ∨ k = 4 ∨ k = 5 ∨ k = 6 ∨ k = 7 ∨ k = 8 := by omega
    have f : ∀ (w : BS) (t : BS), w.length ≤ 10 → t.length ≤ 40000 → decide (((List.length (w ++ [32]) + List.length t : Nat) : Int) ≤ 9223372036854775807) = true := fun w t a b => str_fits (by simp; omega)
    have g : ∀ (w : BS), w.length ≤ 10 → decide (((List.length w + List.length ([32] : List UInt8) : Nat) : Int) ≤ 9223372036854775807) = true := fun w a => str_fits (by simp; omega)
    rcases this with rfl | rfl | rfl | rfl | rfl | rfl | rfl | rfl
    · have e : event_one n 1 ([[109, 97, 107, 101, 45, 110, 101, 116], [109, 97, 107, 101, 45, 118, 111, 108], [100, 114, 111, 112, 45, 110, 101, 116], [100, 114, 111, 112, 45, 118, 111, 108], [109, 97, 107, 101], [115, 116, 97, 114, 116], [115, 116, 111, 112], [100, 114, 111, 112]] : List BS) = some MN := evOne n 0 _ _ rfl (by decide)
      rw [e, Option.bind_some, if_neg (by exact Bool.false_ne_true), if_pos (by rfl), if_pos (g _ (by decide)), if_pos (f _ _ (by decide) h1)]; rfl
    · have e : event_one n 2 ([[109, 97, 107, 101, 45, 110, 101, 116], [109, 97, 107, 101, 45, 118, 111, 108], [100, 114, 111, 112, 45, 110, 101, 116], [100, 114, 111, 112, 45, 118, 111, 108], [109, 97, 107, 101], [115, 116, 97, 114, 116], [115, 116, 111, 112], [100, 114, 111, 112]] : List BS) = some MV := evOne n 1 _ _ rfl (by decide)
      rw [e, Option.bind_some, if_neg (by exact Bool.false_ne_true), if_pos (by rfl), if_pos (g _ (by decide)), if_pos (f _ _ (by decide) h1)]; rfl
    · have e : event_one n 3 ([[109, 97, 107, 101, 45, 110, 101, 116], [109, 97, 107, 101, 45, 118, 111, 108], [100, 114, 111, 112, 45, 110, 101, 116], [100, 114, 111, 112, 45, 118, 111, 108], [109, 97, 107, 101], [115, 116, 97, 114, 116], [115, 116, 111, 112], [100, 114, 111, 112]] : List BS) = some DN := evOne n 2 _ _ rfl (by decide)
      rw [e, Option.bind_some, if_neg (by exact Bool.false_ne_true), if_pos (by rfl), if_pos (g _ (by decide)), if_pos (f _ _ (by decide) h1)]; rfl
    · have e : event_one n 4 ([[109, 97, 107, 101, 45, 110, 101, 116], [109, 97, 107, 101, 45, 118, 111, 108], [100, 114, 111, 112, 45, 110, 101, 116], [100, 114, 111, 112, 45, 118, 111, 108], [109, 97, 107, 101], [115, 116, 97, 114, 116], [115, 116, 111, 112], [100, 114, 111, 112]] : List BS) = some DV := evOne n 3 _ _ rfl (by decide)
      rw [e, Option.bind_some, if_neg (by exact Bool.false_ne_true), if_pos (by rfl), if_pos (g _ (by decide)), if_pos (f _ _ (by decide) h1)]; rfl
    · have e : event_one n 5 ([[109, 97, 107, 101, 45, 110, 101, 116], [109, 97, 107, 101, 45, 118, 111, 108], [100, 114, 111, 112, 45, 110, 101, 116], [100, 114, 111, 112, 45, 118, 111, 108], [109, 97, 107, 101], [115, 116, 97, 114, 116], [115, 116, 111, 112], [100, 114, 111, 112]] : List BS) = some [109, 97, 107, 101] := evOne n 4 _ _ rfl (by decide)
      rw [e, Option.bind_some, if_neg (by exact Bool.false_ne_true), if_neg (by exact Bool.false_ne_true), if_pos (by rfl), if_pos (g _ (by decide)), if_pos (f _ _ (by decide) h2)]; rfl
    · have e : event_one n 6 ([[109, 97, 107, 101, 45, 110, 101, 116], [109, 97, 107, 101, 45, 118, 111, 108], [100, 114, 111, 112, 45, 110, 101, 116], [100, 114, 111, 112, 45, 118, 111, 108], [109, 97, 107, 101], [115, 116, 97, 114, 116], [115, 116, 111, 112], [100, 114, 111, 112]] : List BS) = some [115, 116, 97, 114, 116] := evOne n 5 _ _ rfl (by decide)
      rw [e, Option.bind_some, if_neg (by exact Bool.false_ne_true), if_neg (by exact Bool.false_ne_true), if_neg (by exact Bool.false_ne_true), if_pos (g _ (by decide)), dtextI_eq n id hi.1 hi.2 hn, Option.bind_some, if_pos (f _ _ (by decide) (by omega))]; rfl
    · have e : event_one n 7 ([[109, 97, 107, 101, 45, 110, 101, 116], [109, 97, 107, 101, 45, 118, 111, 108], [100, 114, 111, 112, 45, 110, 101, 116], [100, 114, 111, 112, 45, 118, 111, 108], [109, 97, 107, 101], [115, 116, 97, 114, 116], [115, 116, 111, 112], [100, 114, 111, 112]] : List BS) = some [115, 116, 111, 112] := evOne n 6 _ _ rfl (by decide)
      rw [e, Option.bind_some, if_neg (by exact Bool.false_ne_true), if_neg (by exact Bool.false_ne_true), if_neg (by exact Bool.false_ne_true), if_pos (g _ (by decide)), dtextI_eq n id hi.1 hi.2 hn, Option.bind_some, if_pos (f _ _ (by decide) (by omega))]; rfl
    · have e : event_one n 8 ([[109, 97, 107, 101, 45, 110, 101, 116], [109, 97, 107, 101, 45, 118, 111, 108], [100, 114, 111, 112, 45, 110, 101, 116], [100, 114, 111, 112, 45, 118, 111, 108], [109, 97, 107, 101], [115, 116, 97, 114, 116], [115, 116, 111, 112], [100, 114, 111, 112]] : List BS) = some [100, 114, 111, 112] := evOne n 7 _ _ rfl (by decide)
      rw [e, Option.bind_some, if_neg (by exact Bool.false_ne_true), if_neg (by exact Bool.false_ne_true), if_neg (by exact Bool.false_ne_true), if_pos (g _ (by decide)), dtextI_eq n id hi.1 hi.2 hn, Option.bind_some, if_pos (f _ _ (by decide) (by omega))]; rfl
  · have hb : (bif (decide (k < 1)) then true else (decide (k > ((8 : Nat) : Int)))) = true := by
      by_cases h1 : k < 1
      · rw [decide_eq_true h1]; rfl
      · rw [decide_eq_false h1, cond_false]; exact decide_eq_true (by omega)
    unfold event_one
    rw [if_pos (by exact hb), if_neg (by omega), if_neg (by omega), if_neg (by omega), if_neg (by omega), if_neg (by omega), if_neg (by omega), if_neg (by omega), if_neg (by omega)]
    rfl
theorem callT_len (c : Cl) (h1 : c.f_Name.length ≤ 40000) (h2 : c.f_Spec.f_Name.length ≤ 40000) : (callT c).length ≤ 40100 := by
  have ht := txI_len c.f_Id
  unfold callT
  repeat' split
  all_goals (simp only [List.length_append, List.length_cons, List.length_nil]; omega)
theorem callJ (c : Cl) : [99, 97, 108, 108, 32] ++ callT c ++ (if c.f_Kind = 1 ∨ c.f_Kind = 2 then [32] ++ c.f_Spec.f_Project else []) = jw ([99, 97, 108, 108] :: callW c) := by
  unfold callT callW
  by_cases h1 : c.f_Kind = 1
  · simp [h1, jw, tl]
  by_cases h2 : c.f_Kind = 2
  · simp [h2, jw, tl]
  rw [if_neg h1, if_neg h1, if_neg h2, if_neg h2, if_neg (by omega : ¬ (c.f_Kind = 1 ∨ c.f_Kind = 2))]
  by_cases h3 : c.f_Kind = 3
  · simp [h3, jw, tl]
  by_cases h4 : c.f_Kind = 4
  · simp [h4, jw, tl]
  by_cases h5 : c.f_Kind = 5
  · simp [h5, jw, tl]
  by_cases h6 : c.f_Kind = 6
  · simp [h6, jw, tl]
  by_cases h7 : c.f_Kind = 7
  · simp [h7, jw, tl]
  by_cases h8 : c.f_Kind = 8
  · simp [h8, jw, tl]
  simp [h3, h4, h5, h6, h7, h8, jw, tl]
theorem write_eq (n : Nat) (x : St) (h : Bd x) (hn : 100 ≤ n) : script_write n x = some (wr x) := by
  have hN := txI_len x.f_N
  have hM := txI_len x.f_M
  unfold script_write wr wds
  rw [dtextI_eq n _ h.n.1 h.n.2 hn, dtextI_eq n _ h.m.1 h.m.2 hn, Option.bind_some, Option.bind_some]
  by_cases k2 : x.f_Kind = 2
  · rw [if_pos (beq_iff_eq.2 k2), if_pos k2]; rfl
  rw [if_neg (fun e => k2 (beq_iff_eq.1 e)), if_neg k2]
  by_cases k8 : x.f_Kind = 8
  · rw [if_pos (beq_iff_eq.2 k8), if_pos k8]; rfl
  rw [if_neg (fun e => k8 (beq_iff_eq.1 e)), if_neg k8]
  by_cases k3 : x.f_Kind = 3
  · rw [if_pos (beq_iff_eq.2 k3), if_pos k3, if_pos (str_fits (by simp; omega))]; simp [jw, tl]
  rw [if_neg (fun e => k3 (beq_iff_eq.1 e)), if_neg k3]
  by_cases k5 : x.f_Kind = 5
  · rw [if_pos (beq_iff_eq.2 k5), if_pos k5, if_pos (str_fits (by simp; omega))]; simp [jw, tl]
  rw [if_neg (fun e => k5 (beq_iff_eq.1 e)), if_neg k5]
  by_cases k6 : x.f_Kind = 6
  · rw [if_pos (beq_iff_eq.2 k6), if_pos k6, if_pos (str_fits (by simp; omega))]; simp [jw, tl]
  rw [if_neg (fun e => k6 (beq_iff_eq.1 e)), if_neg k6]
  by_cases k4 : x.f_Kind = 4
  · rw [if_pos (beq_iff_eq.2 k4), if_pos k4, if_pos (str_fits (by simp; omega)), if_pos (str_fits (by simp; omega)), if_pos (str_fits (by simp; omega))]; simp [jw, tl]
  rw [if_neg (fun e => k4 (beq_iff_eq.1 e)), if_neg k4]
  by_cases k7 : x.f_Kind = 7
  · rw [if_pos (beq_iff_eq.2 k7), if_pos k7, if_pos (str_fits (by simp; omega)), if_pos (str_fits (by simp; omega)), if_pos (str_fits (by simp; omega))]; simp [jw, tl]
  rw [if_neg (fun e => k7 (beq_iff_eq.1 e)), if_neg k7]
  by_cases k9 : x.f_Kind = 9
  · have hc := callT_len x.f_Call h.nm h.sn
    have hp := h.pj
    rw [if_pos (beq_iff_eq.2 k9), if_pos k9, eCall n _ h.i h.nm h.sn hn, Option.bind_some, if_pos (str_fits (by simp; omega)), ← callJ]
    unfold script_write_j1
    by_cases hk : x.f_Call.f_Kind = 1 ∨ x.f_Call.f_Kind = 2
    · have hb : (bif (x.f_Call.f_Kind == 1) then true else (x.f_Call.f_Kind == 2)) = true := by
        rcases hk with e | e <;> rw [e] <;> rfl
      rw [hb, if_pos rfl, if_pos (str_fits (by simp; omega)), if_pos (str_fits (by simp; omega)), if_pos hk]; rfl
    · have hb : (bif (x.f_Call.f_Kind == 1) then true else (x.f_Call.f_Kind == 2)) = false := by
        simp only [not_or] at hk
        have e1 : (x.f_Call.f_Kind == 1) = false := by simpa using hk.1
        have e2 : (x.f_Call.f_Kind == 2) = false := by simpa using hk.2
        rw [e1, e2]; rfl
      rw [hb, if_neg Bool.false_ne_true, if_neg hk, List.append_nil]; rfl
  · rw [if_neg (fun e => k9 (beq_iff_eq.1 e)), if_neg k9, eCmdW, Option.bind_some]
    have hl := h.sl
    have o1 := optW_len [45, 110] x.f_Command.f_Count
    have o2 := flgW_len [45, 111] x.f_Command.f_Orphans
    have o3 := flgW_len [45, 118] x.f_Command.f_Volumes
    have o4 := optW_len [45, 116] x.f_Command.f_Timeout
    have o5 := optW_len [45, 114] x.f_Command.f_Retries
    rw [if_pos (capW (by simp; omega)), one_eq n _ _ _ h.c (by simp; omega) hn, Option.bind_some, wj2_eq n _ _ _ (by simp; omega), Option.bind_some, wj3_eq n _ _ _ (by simp; omega), Option.bind_some,
      one_eq n _ _ _ h.t (by simp; omega) hn, Option.bind_some, one_eq n _ _ _ h.r (by simp; omega) hn, Option.bind_some]
    have hwl : (cmdW x.f_Command.f_Kind).length ≤ 10 := by
      unfold cmdW
      split
      · rename_i hk
        have : x.f_Command.f_Kind = 1 ∨ x.f_Command.f_Kind = 2 ∨ x.f_Command.f_Kind = 3 ∨ x.f_Command.f_Kind = 4 ∨ x.f_Command.f_Kind = 5 ∨ x.f_Command.f_Kind = 6 := by omega
        rcases this with e | e | e | e | e | e <;> rw [e] <;> decide
      · exact Nat.zero_le _
    have hop : ∀ (a : BS) (v : Int), a.length ≤ 10 → ∀ w ∈ optW a v, w.length ≤ 10000 := by
      intro a v ha w hw
      have := txI_len v
      unfold optW at hw
      split at hw
      · cases hw
      · simp only [List.mem_cons, List.not_mem_nil, or_false] at hw
        rcases hw with rfl | rfl <;> omega
    have hfl : ∀ (a : BS) (v : Bool), a.length ≤ 10 → ∀ w ∈ flgW a v, w.length ≤ 10000 := by
      intro a v ha w hw
      unfold flgW at hw
      split at hw
      · simp only [List.mem_cons, List.not_mem_nil, or_false] at hw
        subst hw; omega
      · cases hw
    have hlist : ((((([cmdW x.f_Command.f_Kind, txI x.f_N] ++ x.f_Command.f_Services) ++ optW [45, 110] x.f_Command.f_Count) ++ flgW [45, 111] x.f_Command.f_Orphans) ++ flgW [45, 118] x.f_Command.f_Volumes) ++ optW [45, 116] x.f_Command.f_Timeout) ++ optW [45, 114] x.f_Command.f_Retries = cmdW x.f_Command.f_Kind :: txI x.f_N :: svW x := by
      simp [svW]
    rw [hlist]
    have hsv : (svW x).length ≤ 6000 := by unfold svW; simp; omega
    have hall : ∀ w ∈ cmdW x.f_Command.f_Kind :: txI x.f_N :: svW x, w.length + ([32] : BS).length ≤ 20000 := by
      intro w hw
      show w.length + 1 ≤ 20000
      rcases List.mem_cons.1 hw with rfl | hw
      · omega
      rcases List.mem_cons.1 hw with rfl | hw
      · omega
      have : w.length ≤ 10000 := by
        unfold svW at hw
        simp only [List.mem_append] at hw
        rcases hw with ((((hw | hw) | hw) | hw) | hw) | hw
        · exact h.s w hw
        · exact hop _ _ (by decide) w hw
        · exact hfl _ _ (by decide) w hw
        · exact hfl _ _ (by decide) w hw
        · exact hop _ _ (by decide) w hw
        · exact hop _ _ (by decide) w hw
      omega
    have hj := join_len [32] 20000 _ hall
    rw [if_pos (decide_eq_true ⟨by show _ ≤ 140737488355328; simp; omega, by show _ ≤ 140737488355328; simp only [List.length_cons] at hj; omega⟩), join_jw]
theorem rCmdW (m : Nat) (k : Int) : ref44_Command (m + 8) k = some (cmdW k) := by
  by_cases h : 1 ≤ k ∧ k ≤ 6
  · obtain ⟨i, rfl, hi⟩ : ∃ i : Nat, k = ((i + 1 : Nat) : Int) ∧ i < 6 := ⟨(k - 1).toNat, by omega, by omega⟩
    obtain ⟨c, hc⟩ : ∃ c, cmds[i]? = some c := ⟨cmds[i]'(by show i < 6; exact hi), List.getElem?_eq_getElem _⟩
    rw [rCommand m i c hc]
    unfold cmdW
    rw [if_pos h, show (((i + 1 : Nat) : Int) - 1).toNat = i by omega, hc]; rfl
  · unfold ref44_Command cmdW
    have : (bif (decide (k < 1)) then true else (decide (k > 6))) = true := by
      by_cases h1 : k < 1
      · rw [decide_eq_true h1]; rfl
      · rw [decide_eq_false h1, cond_false]; exact decide_eq_true (by omega)
    rw [if_neg h, if_pos this]
theorem rOpt (n : Nat) (a : BS) (v : Int) (ha : a.length ≤ 10) (hv : I64 v) (hn : 100 ≤ n) : ref45_option n a v = some (tl (optW a v)) := by
  have ht := txI_len v
  unfold ref45_option optW
  by_cases h : v = 0
  · rw [if_pos (beq_iff_eq.2 h), if_pos h]; rfl
  · rw [if_neg (fun e => h (beq_iff_eq.1 e)), if_neg h, if_pos (str_fits (by simp; omega)), if_pos (str_fits (by simp; omega)), rtextI_eq n v hv.1 hv.2 hn, Option.bind_some, if_pos (str_fits (by simp; omega))]
    simp [tl]
theorem rj2 (n : Nat) (s : BS) (b : Bool) (x : St) (hs : s.length ≤ 900000000) : ref45_written_j2 n s b x = some (s ++ tl (flgW [45, 111] b)) := by
  unfold ref45_written_j2 flgW
  cases b with
  | false => simp [tl]
  | true => rw [if_pos rfl, if_pos rfl, if_pos (str_fits (by simp; omega))]; rfl
theorem rj3 (n : Nat) (s : BS) (b : Bool) (x : St) (hs : s.length ≤ 900000000) : ref45_written_j3 n s b x = some (s ++ tl (flgW [45, 118] b)) := by
  unfold ref45_written_j3 flgW
  cases b with
  | false => simp [tl]
  | true => rw [if_pos rfl, if_pos rfl, if_pos (str_fits (by simp; omega))]; rfl
theorem rsv (n : Nat) (x : St) (h : Bd x) : ∀ (k i : Nat) (acc : BS), i ≤ x.f_Command.f_Services.length → x.f_Command.f_Services.length - i < k → acc.length ≤ 1000 + i * 10001 → ref45_written_l1 n x k acc (i : Int) = some (acc ++ tl (x.f_Command.f_Services.drop i))
  | 0, i, acc, _, h, _ => by omega
  | k + 1, i, acc, h1, h2, h3 => by
    rw [ref45_written_l1]
    have hl := h.sl
    by_cases hi : i < x.f_Command.f_Services.length
    · have hm : x.f_Command.f_Services[i].length ≤ 10000 := h.s _ (List.getElem_mem hi)
      rw [if_pos (lt_i hi), if_pos (str_fits (by simp; omega)), if_pos (in_i hi), at_i hi, if_pos (str_fits (by simp; omega)), wrap_s i (by omega), rsv n x h k (i + 1) _ (by omega) (by omega) (by simp; omega), drop_at hi, tl_cons]
      simp
    · have : i = x.f_Command.f_Services.length := by omega
      subst this
      rw [nlt_n, if_neg Bool.false_ne_true, List.drop_length, tl_nil, List.append_nil]
theorem rCallT (m : Nat) (c : Cl) (hi : I64 c.f_Id) (h1 : c.f_Name.length ≤ 40000) (h2 : c.f_Spec.f_Name.length ≤ 40000) (hn : 100 ≤ m) : ref44_Call (m + 10) c = some (callT c) := by
  obtain ⟨k, nm, id, sp⟩ := c
  simp only at hi h1 h2
  have ht := txI_len id
  unfold ref44_Call callT
  simp only
  by_cases h : 1 ≤ k ∧ k ≤ 8
  · have : k = 1 ∨ k = 2 ∨ k = 3 ∨ k = 4 ∨ k = 5 ∨ k = 6 ∨ k = 7 ∨ k = 8 := by omega
    have f : ∀ (w : BS) (t : BS), w.length ≤ 10 → t.length ≤ 40000 → decide (((List.length (w ++ [32]) + List.length t : Nat) : Int) ≤ 9223372036854775807) = true := fun w t a b => str_fits (by simp; omega)
    have g : ∀ (w : BS), w.length ≤ 10 → decide (((List.length w + List.length ([32] : List UInt8) : Nat) : Int) ≤ 9223372036854775807) = true := fun w a => str_fits (by simp; omega)
    rcases this with rfl | rfl | rfl | rfl | rfl | rfl | rfl | rfl
    · have w : ref44_word (m + 10) ([[109, 97, 107, 101, 45, 110, 101, 116], [109, 97, 107, 101, 45, 118, 111, 108], [100, 114, 111, 112, 45, 110, 101, 116], [100, 114, 111, 112, 45, 118, 111, 108], [109, 97, 107, 101], [115, 116, 97, 114, 116], [115, 116, 111, 112], [100, 114, 111, 112]]) 1 = some MN := by kernel_rfl
      rw [if_neg (by exact Bool.false_ne_true), w, Option.bind_some, if_pos (g _ (by decide)), if_pos (by rfl), if_pos (f _ _ (by decide) h1)]; rfl
    · have w : ref44_word (m + 10) ([[109, 97, 107, 101, 45, 110, 101, 116], [109, 97, 107, 101, 45, 118, 111, 108], [100, 114, 111, 112, 45, 110, 101, 116], [100, 114, 111, 112, 45, 118, 111, 108], [109, 97, 107, 101], [115, 116, 97, 114, 116], [115, 116, 111, 112], [100, 114, 111, 112]]) 2 = some MV := by kernel_rfl
      rw [if_neg (by exact Bool.false_ne_true), w, Option.bind_some, if_pos (g _ (by decide)), if_pos (by rfl), if_pos (f _ _ (by decide) h1)]; rfl
    · have w : ref44_word (m + 10) ([[109, 97, 107, 101, 45, 110, 101, 116], [109, 97, 107, 101, 45, 118, 111, 108], [100, 114, 111, 112, 45, 110, 101, 116], [100, 114, 111, 112, 45, 118, 111, 108], [109, 97, 107, 101], [115, 116, 97, 114, 116], [115, 116, 111, 112], [100, 114, 111, 112]]) 3 = some DN := by kernel_rfl
      rw [if_neg (by exact Bool.false_ne_true), w, Option.bind_some, if_pos (g _ (by decide)), if_pos (by rfl), if_pos (f _ _ (by decide) h1)]; rfl
    · have w : ref44_word (m + 10) ([[109, 97, 107, 101, 45, 110, 101, 116], [109, 97, 107, 101, 45, 118, 111, 108], [100, 114, 111, 112, 45, 110, 101, 116], [100, 114, 111, 112, 45, 118, 111, 108], [109, 97, 107, 101], [115, 116, 97, 114, 116], [115, 116, 111, 112], [100, 114, 111, 112]]) 4 = some DV := by kernel_rfl
      rw [if_neg (by exact Bool.false_ne_true), w, Option.bind_some, if_pos (g _ (by decide)), if_pos (by rfl), if_pos (f _ _ (by decide) h1)]; rfl
    · have w : ref44_word (m + 10) ([[109, 97, 107, 101, 45, 110, 101, 116], [109, 97, 107, 101, 45, 118, 111, 108], [100, 114, 111, 112, 45, 110, 101, 116], [100, 114, 111, 112, 45, 118, 111, 108], [109, 97, 107, 101], [115, 116, 97, 114, 116], [115, 116, 111, 112], [100, 114, 111, 112]]) 5 = some [109, 97, 107, 101] := by kernel_rfl
      rw [if_neg (by exact Bool.false_ne_true), w, Option.bind_some, if_pos (g _ (by decide)), if_neg (by exact Bool.false_ne_true), if_pos (by rfl), if_pos (f _ _ (by decide) h2)]; rfl
    · have w : ref44_word (m + 10) ([[109, 97, 107, 101, 45, 110, 101, 116], [109, 97, 107, 101, 45, 118, 111, 108], [100, 114, 111, 112, 45, 110, 101, 116], [100, 114, 111, 112, 45, 118, 111, 108], [109, 97, 107, 101], [115, 116, 97, 114, 116], [115, 116, 111, 112], [100, 114, 111, 112]]) 6 = some [115, 116, 97, 114, 116] := by kernel_rfl
      rw [if_neg (by exact Bool.false_ne_true), w, Option.bind_some, if_pos (g _ (by decide)), if_neg (by exact Bool.false_ne_true), if_neg (by exact Bool.false_ne_true), rtextI_eq _ id hi.1 hi.2 (by omega), Option.bind_some, if_pos (f _ _ (by decide) (by omega))]; rfl
    · have w : ref44_word (m + 10) ([[109, 97, 107, 101, 45, 110, 101, 116], [109, 97, 107, 101, 45, 118, 111, 108], [100, 114, 111, 112, 45, 110, 101, 116], [100, 114, 111, 112, 45, 118, 111, 108], [109, 97, 107, 101], [115, 116, 97, 114, 116], [115, 116, 111, 112], [100, 114, 111, 112]]) 7 = some [115, 116, 111, 112] := by kernel_rfl
      rw [if_neg (by exact Bool.false_ne_true), w, Option.bind_some, if_pos (g _ (by decide)), if_neg (by exact Bool.false_ne_true), if_neg (by exact Bool.false_ne_true), rtextI_eq _ id hi.1 hi.2 (by omega), Option.bind_some, if_pos (f _ _ (by decide) (by omega))]; rfl
    · have w : ref44_word (m + 10) ([[109, 97, 107, 101, 45, 110, 101, 116], [109, 97, 107, 101, 45, 118, 111, 108], [100, 114, 111, 112, 45, 110, 101, 116], [100, 114, 111, 112, 45, 118, 111, 108], [109, 97, 107, 101], [115, 116, 97, 114, 116], [115, 116, 111, 112], [100, 114, 111, 112]]) 8 = some [100, 114, 111, 112] := by kernel_rfl
      rw [if_neg (by exact Bool.false_ne_true), w, Option.bind_some, if_pos (g _ (by decide)), if_neg (by exact Bool.false_ne_true), if_neg (by exact Bool.false_ne_true), rtextI_eq _ id hi.1 hi.2 (by omega), Option.bind_some, if_pos (f _ _ (by decide) (by omega))]; rfl
  · have hb : (bif (decide (k < 1)) then true else (decide (k > 8))) = true := by
      by_cases h1 : k < 1
      · rw [decide_eq_true h1]; rfl
      · rw [decide_eq_false h1, cond_false]; exact decide_eq_true (by omega)
    rw [if_pos hb, if_neg (by omega), if_neg (by omega), if_neg (by omega), if_neg (by omega), if_neg (by omega), if_neg (by omega), if_neg (by omega), if_neg (by omega)]
def In9 (x : St) : Prop := 1 ≤ x.f_Kind ∧ x.f_Kind ≤ 9 ∧ (x.f_Kind = 9 → 1 ≤ x.f_Call.f_Kind)
theorem rwritten_eq (m : Nat) (x : St) (h : Bd x) (hm : 10000 ≤ m) : ∃ s, ref45_written (m + 10) x = some s ∧ (In9 x → s = wr x) ∧ (¬ In9 x → s.length ≤ 100000) := by
  have hN := txI_len x.f_N
  have hM := txI_len x.f_M
  unfold ref45_written In9
  rw [rtextI_eq _ _ h.n.1 h.n.2 (by omega), rtextI_eq _ _ h.m.1 h.m.2 (by omega), Option.bind_some, Option.bind_some]
  by_cases k1 : x.f_Kind = 1
  · have hl := h.sl
    have ho1 : ∀ (a : BS) (v : Int), a.length ≤ 10 → (tl (optW a v)).length ≤ 50 := by
      intro a v ha
      have := txI_len v
      unfold optW
      split
      · simp [tl]
      · simp [tl]; omega
    have ho2 : ∀ (a : BS) (v : Bool), a.length ≤ 10 → (tl (flgW a v)).length ≤ 50 := by
      intro a v ha
      unfold flgW
      split
      · simp [tl]; omega
      · simp [tl]
    have o1 := ho1 [45, 110] x.f_Command.f_Count (by decide)
    have o2 := ho2 [45, 111] x.f_Command.f_Orphans (by decide)
    have o3 := ho2 [45, 118] x.f_Command.f_Volumes (by decide)
    have o4 := ho1 [45, 116] x.f_Command.f_Timeout (by decide)
    have o5 := ho1 [45, 114] x.f_Command.f_Retries (by decide)
    have hwl : (cmdW x.f_Command.f_Kind).length ≤ 10 := by
      unfold cmdW
      split
      · rename_i hk
        have : x.f_Command.f_Kind = 1 ∨ x.f_Command.f_Kind = 2 ∨ x.f_Command.f_Kind = 3 ∨ x.f_Command.f_Kind = 4 ∨ x.f_Command.f_Kind = 5 ∨ x.f_Command.f_Kind = 6 := by omega
        rcases this with e | e | e | e | e | e <;> rw [e] <;> decide
      · exact Nat.zero_le _
    have hsv := tl_len 10000 _ h.s
    have hl1 := rsv (m + 10) x h (m + 10) 0 ((cmdW x.f_Command.f_Kind ++ [32]) ++ txI x.f_N) (by omega) (by omega) (by simp; omega)
    have hl1 : ref45_written_l1 (m + 10) x (m + 10) ((cmdW x.f_Command.f_Kind ++ [32]) ++ txI x.f_N) 0 = some (((cmdW x.f_Command.f_Kind ++ [32]) ++ txI x.f_N) ++ tl x.f_Command.f_Services) := hl1
    have hmul : x.f_Command.f_Services.length * 10001 ≤ 5000 * 10001 := Nat.mul_le_mul_right _ hl
    refine ⟨wr x, ?_, fun _ => rfl, fun hh => absurd ⟨by omega, by omega, fun e => by omega⟩ hh⟩
    rw [if_pos (beq_iff_eq.2 k1), rCmdW (m + 2), Option.bind_some, if_pos (str_fits (by simp; omega)), if_pos (str_fits (by simp; omega)), hl1, Option.bind_some, rOpt _ _ _ (by decide) h.c (by omega), Option.bind_some, if_pos (str_fits (by simp; omega)), rj2 _ _ _ _ (by simp; omega), Option.bind_some, rj3 _ _ _ _ (by simp; omega), Option.bind_some,
      rOpt _ _ _ (by decide) h.t (by omega), Option.bind_some, if_pos (str_fits (by simp; omega)), rOpt _ _ _ (by decide) h.r (by omega), Option.bind_some, if_pos (str_fits (by simp; omega))]
    unfold wr wds svW
    rw [if_neg (by omega), if_neg (by omega), if_neg (by omega), if_neg (by omega), if_neg (by omega), if_neg (by omega), if_neg (by omega), if_neg (by omega)]
    simp only [jw, tl_cons, tl_app, List.append_assoc, List.cons_append, List.nil_append]
  rw [if_neg (fun e => k1 (beq_iff_eq.1 e))]
  by_cases k9 : x.f_Kind = 9
  · have hc := callT_len x.f_Call h.nm h.sn
    have hp := h.pj
    rw [if_pos (beq_iff_eq.2 k9), rCallT m _ h.i h.nm h.sn (by omega), Option.bind_some, if_pos (str_fits (by simp; omega))]
    unfold ref45_written_j4
    by_cases hk : x.f_Call.f_Kind < 3
    · rw [if_pos (decide_eq_true hk), if_pos (str_fits (by simp; omega)), if_pos (str_fits (by simp; omega))]
      refine ⟨_, rfl, fun hh => ?_, fun hh => by simp; omega⟩
      have hh := hh.2.2 k9
      unfold wr wds
      rw [if_neg (by omega), if_neg (by omega), if_neg (by omega), if_neg (by omega), if_neg (by omega), if_neg (by omega), if_neg (by omega), if_pos k9, ← callJ, if_pos (by omega : x.f_Call.f_Kind = 1 ∨ x.f_Call.f_Kind = 2)]
      simp only [List.append_assoc]
    · rw [if_neg (by simpa using hk)]
      refine ⟨_, rfl, fun hh => ?_, fun hh => by simp; omega⟩
      unfold wr wds
      rw [if_neg (by omega), if_neg (by omega), if_neg (by omega), if_neg (by omega), if_neg (by omega), if_neg (by omega), if_neg (by omega), if_pos k9, ← callJ, if_neg (by omega : ¬ (x.f_Call.f_Kind = 1 ∨ x.f_Call.f_Kind = 2)), List.append_nil]
  rw [if_neg (fun e => k9 (beq_iff_eq.1 e))]
  simp only [lett]
  by_cases hk : x.f_Kind < 2 ∨ x.f_Kind > 8
  · have hb : (bif (decide (x.f_Kind < 2)) then true else (decide (x.f_Kind > 8))) = true := by
      rcases hk with e | e
      · rw [decide_eq_true e]; rfl
      · rw [decide_eq_true e]; cases decide (x.f_Kind < 2) <;> rfl
    rw [if_pos hb]
    exact ⟨_, rfl, fun hh => by omega, fun _ => by simp⟩
  · refine ⟨wr x, ?_, fun _ => rfl, fun hh => absurd ⟨by omega, by omega, fun e => absurd e k9⟩ hh⟩
    have : x.f_Kind = 2 ∨ x.f_Kind = 3 ∨ x.f_Kind = 4 ∨ x.f_Kind = 5 ∨ x.f_Kind = 6 ∨ x.f_Kind = 7 ∨ x.f_Kind = 8 := by omega
    unfold wr wds
    rcases this with e | e | e | e | e | e | e
    · rw [e]; rfl
    · rw [e, if_neg (by decide), if_pos (by decide), if_neg (by decide), if_neg (by decide), if_pos (str_fits (by simp)), if_pos (str_fits (by simp; omega))]; simp [jw, tl]
    · rw [e, if_neg (by decide), if_pos (by decide), if_neg (by decide), if_pos (by decide), if_pos (str_fits (by simp)), if_pos (str_fits (by simp; omega)), if_pos (str_fits (by simp; omega)), if_pos (str_fits (by simp; omega))]; simp [jw, tl]
    · rw [e, if_neg (by decide), if_pos (by decide), if_neg (by decide), if_neg (by decide), if_pos (str_fits (by simp)), if_pos (str_fits (by simp; omega))]; simp [jw, tl]
    · rw [e, if_neg (by decide), if_pos (by decide), if_neg (by decide), if_neg (by decide), if_pos (str_fits (by simp)), if_pos (str_fits (by simp; omega))]; simp [jw, tl]
    · rw [e, if_neg (by decide), if_pos (by decide), if_neg (by decide), if_pos (by decide), if_pos (str_fits (by simp)), if_pos (str_fits (by simp; omega)), if_pos (str_fits (by simp; omega)), if_pos (str_fits (by simp; omega))]; simp [jw, tl]
    · rw [e]; rfl
end Go.Proofs.YtjjlpomfnfipbaaDoor.M
