/-
  Part of the proof of ScriptBack: P45G.
-/
import Derived.Test.YtjjlpomfnfipbaaDoorQP45F
set_option linter.all false
namespace Go.Proofs.YtjjlpomfnfipbaaDoor.M
open Go Go.Proofs.YtjjlpomfnfipbaaDoor.RX Go.Proofs.YtjjlpomfnfipbaaDoor.PL
def tl (l : List BS) : BS := l.flatMap fun w => 32 :: w
def jw : List BS → BS | [] => [] | w :: r => w ++ tl r
theorem tl_cons (w : BS) (r : List BS) : tl (w :: r) = 32 :: (w ++ tl r) := by unfold tl; simp
theorem tl_app (a b : List BS) : tl (a ++ b) = tl a ++ tl b := by unfold tl; simp
theorem joinTail_eq : ∀ r : List BS, Lib.joinTail [32] r = tl r
  | [] => by simp [Lib.joinTail, tl]
  | w :: r => by
    have := joinTail_eq r
    rw [tl_cons, ← this]
    simp [Lib.joinTail]
theorem join_jw (l : List BS) : Lib.join l [32] = jw l := by
  cases l with
  | nil => exact Lib.join_nil _
  | cons w r => rw [Lib.join_cons, joinTail_eq]; rfl
theorem tl_len (m : Nat) : ∀ l : List BS, (∀ x ∈ l, x.length ≤ m) → (tl l).length ≤ l.length * (m + 1)
  | [], _ => by simp [tl]
  | w :: r, h => by
    have h1 := h w (by simp)
    have h2 := tl_len m r fun x hx => h x (by simp [hx])
    rw [tl_cons]
    simp only [List.length_cons, List.length_append, Nat.add_mul]
    omega
def optW (a : BS) (v : Int) : List BS := if v = 0 then [] else [a, txI v]
def flgW (a : BS) (b : Bool) : List BS := if b = true then [a] else []
def cmdW (k : Int) : BS := if 1 ≤ k ∧ k ≤ 6 then cmds[(k - 1).toNat]?.getD [] else []
def callW (c : Cl) : List BS :=
  if c.f_Kind = 1 then [MN, c.f_Name, c.f_Spec.f_Project] else if c.f_Kind = 2 then [MV, c.f_Name, c.f_Spec.f_Project] else if c.f_Kind = 3 then [DN, c.f_Name] else if c.f_Kind = 4 then [DV, c.f_Name]
  else if c.f_Kind = 5 then [[109, 97, 107, 101], c.f_Spec.f_Name] else if c.f_Kind = 6 then [[115, 116, 97, 114, 116], txI c.f_Id] else if c.f_Kind = 7 then [[115, 116, 111, 112], txI c.f_Id] else if c.f_Kind = 8 then [[100, 114, 111, 112], txI c.f_Id] else [[63]]
def svW (x : St) : List BS := x.f_Command.f_Services ++ optW [45, 110] x.f_Command.f_Count ++ flgW [45, 111] x.f_Command.f_Orphans ++ flgW [45, 118] x.f_Command.f_Volumes ++ optW [45, 116] x.f_Command.f_Timeout ++ optW [45, 114] x.f_Command.f_Retries
def wds (x : St) : List BS :=
  if x.f_Kind = 2 then [[103, 111]] else if x.f_Kind = 8 then [[99, 114, 97, 115, 104]] else if x.f_Kind = 3 then [[116, 105, 99, 107], txI x.f_N] else if x.f_Kind = 5 then [[115, 105, 99, 107], txI x.f_N]
  else if x.f_Kind = 6 then [[119, 101, 108, 108], txI x.f_N] else if x.f_Kind = 4 then [[101, 120, 105, 116], txI x.f_N, txI x.f_M] else if x.f_Kind = 7 then [[102, 97, 117, 108, 116], txI x.f_N, txI x.f_M]
  else if x.f_Kind = 9 then [99, 97, 108, 108] :: callW x.f_Call else cmdW x.f_Command.f_Kind :: txI x.f_N :: svW x
def wr (x : St) : BS := jw (wds x)
def I64 (v : Int) : Prop := -9223372036854775808 ≤ v ∧ v ≤ 9223372036854775807
structure Bd (x : St) : Prop where
  n : I64 x.f_N
  m : I64 x.f_M
  c : I64 x.f_Command.f_Count
  t : I64 x.f_Command.f_Timeout
  r : I64 x.f_Command.f_Retries
  i : I64 x.f_Call.f_Id
  sl : x.f_Command.f_Services.length ≤ 5000
  s : ∀ w ∈ x.f_Command.f_Services, w.length ≤ 10000
  nm : x.f_Call.f_Name.length ≤ 40000
  sn : x.f_Call.f_Spec.f_Name.length ≤ 40000
  pj : x.f_Call.f_Spec.f_Project.length ≤ 40000
theorem txI_len (v : Int) : (txI v).length ≤ 20 := by
  unfold txI
  split
  · have := dg_len 18 (-v).toNat []
    simp only [List.length_cons, List.length_nil] at this ⊢; omega
  · have := dg_len 19 v.toNat []
    simp only [List.length_nil] at this; omega
theorem optW_len (a : BS) (v : Int) : (optW a v).length ≤ 2 := by unfold optW; split <;> simp
theorem flgW_len (a : BS) (v : Bool) : (flgW a v).length ≤ 1 := by unfold flgW; split <;> simp
theorem capW {l m : List BS} (h : l.length + m.length ≤ 1000000) : decide ((List.length l + List.length m) * (16 + 1) ≤ limit) = true := decide_eq_true (by show (l.length + m.length) * (16 + 1) ≤ 140737488355328; omega)
theorem eCmdW (n : Nat) (k : Int) : event_Command n k = some (cmdW k) := by
  by_cases h : 1 ≤ k ∧ k ≤ 6
  · obtain ⟨i, rfl, hi⟩ : ∃ i : Nat, k = ((i + 1 : Nat) : Int) ∧ i < 6 := ⟨(k - 1).toNat, by omega, by omega⟩
    obtain ⟨c, hc⟩ : ∃ c, cmds[i]? = some c := ⟨cmds[i]'(by show i < 6; exact hi), List.getElem?_eq_getElem _⟩
    rw [eCommand n i c hc]
    unfold cmdW
    rw [if_pos h, show (((i + 1 : Nat) : Int) - 1).toNat = i by omega, hc]; rfl
  · unfold event_Command event_one cmdW
    have : (bif (decide (k < 1)) then true else (decide (k > ((6 : Nat) : Int)))) = true := by
      by_cases h1 : k < 1
      · rw [decide_eq_true h1]; rfl
      · rw [decide_eq_false h1, cond_false]; exact decide_eq_true (by omega)
    rw [if_neg h, if_pos (by exact this)]; rfl
theorem one_eq (n : Nat) (a : BS) (v : Int) (l : List BS) (hv : I64 v) (hl : l.length ≤ 100000) (hn : 100 ≤ n) : script_write_1__o0 n a v l = some (l ++ optW a v) := by
  unfold script_write_1__o0 optW
  by_cases h : v = 0
  · rw [if_neg (by simp [h]), if_pos h, List.append_nil]
  · rw [if_pos (by simpa using h), if_neg h, dtextI_eq n v hv.1 hv.2 hn, Option.bind_some, if_pos (capW (by simp; omega))]
theorem wj2_eq (n : Nat) (b : Bool) (c : Cm) (l : List BS) (hl : l.length ≤ 100000) : script_write_j2 n b c l = some (l ++ flgW [45, 111] b) := by
  unfold script_write_j2 flgW
  cases b with
  | false => simp
  | true => rw [if_pos rfl, if_pos rfl, if_pos (capW (by simp; omega))]
theorem wj3_eq (n : Nat) (b : Bool) (c : Cm) (l : List BS) (hl : l.length ≤ 100000) : script_write_j3 n b c l = some (l ++ flgW [45, 118] b) := by
  unfold script_write_j3 flgW
  cases b with
  | false => simp
  | true => rw [if_pos rfl, if_pos rfl, if_pos (capW (by simp; omega))]
def callT (c : Cl) : BS :=
  if c.f_Kind = 1 then MN ++ [32] ++ c.f_Name else if c.f_Kind = 2 then MV ++ [32] ++ c.f_Name else if c.f_Kind = 3 then DN ++ [32] ++ c.f_Name else if c.f_Kind = 4 then DV ++ [32] ++ c.f_Name
  else if c.f_Kind = 5 then [109, 97, 107, 101] ++ [32] ++ c.f_Spec.f_Name else if c.f_Kind = 6 then [115, 116, 97, 114, 116] ++ [32] ++ txI c.f_Id else if c.f_Kind = 7 then [115, 116, 111, 112] ++ [32] ++ txI c.f_Id else if c.f_Kind = 8 then [100, 114, 111, 112] ++ [32] ++ txI c.f_Id else [63]
theorem evOne (n i : Nat) (l : List BS) (c : BS) (h : l[i]? = some c) (hl : l.length ≤ 1000) : event_one n ((i + 1 : Nat) : Int) l = some c := by
  have hi : i < l.length := by
    apply Classical.byContradiction; intro hc
    rw [List.getElem?_eq_none (by omega)] at h; cases h
  unfold event_one
  have h1 : decide (((i + 1 : Nat) : Int) < 1) = false := decide_eq_false (by omega)
  have h2 : decide (((i + 1 : Nat) : Int) > (l.length : Int)) = false := decide_eq_false (by omega)
  have h3 : IntKind.wrap .i64 (((i + 1 : Nat) : Int) - 1) = (i : Int) := by rw [wrap_id _ (by omega) (by omega)]; omega
  rw [h1, h2, h3, in_i hi, tn, h]
  rfl
theorem eCall (n : Nat) (c : Cl) (hi : I64 c.f_Id) (h1 : c.f_Name.length ≤ 40000) (h2 : c.f_Spec.f_Name.length ≤ 40000) (hn : 100 ≤ n) : event_Call n c = some (callT c) := by
  obtain ⟨k, nm, id, sp⟩ := c
  simp only at hi h1 h2
  have ht := txI_len id
  unfold event_Call callT
  simp only
  by_cases h : 1 ≤ k ∧ k ≤ 8
  · have : k = 1 ∨ k = 2 ∨ k = 3 ∨ k = 4 ∨ k = 5 ∨ k = 6 ∨ k = 7 ∨ k = 8 := by omega
    have f : ∀ (w : BS) (t : BS), w.length ≤ 10 → t.length ≤ 40000 → decide (((List.length (w ++ [32]) + List.length t : Nat) : Int) ≤ 9223372036854775807) = true := fun w t a b => str_fits (by simp; omega)
    have g : ∀ (w : BS), w.length ≤ 10 → decide (((List.length w + List.length ([32] : List UInt8) : Nat) : Int) ≤ 9223372036854775807) = true := fun w a => str_fits (by simp; omega)
    rcases this with rfl | rfl | rfl | rfl | rfl | rfl | rfl | rfl
    · have e : event_one n 1 ([[109, 97, 107, 101, 45, 110, 101, 116], [109, 97, 107, 101, 45, 118, 111, 108], [100, 114, 111, 112, 45, 110, 101, 116], [100, 114, 111, 112, 45, 118, 111, 108], [109, 97, 107, 101], [115, 116, 97, 114, 116], [115, 116, 111, 112], [100, 114, 111, 112]] : List BS) = some MN := evOne n 0 _ _ rfl (by decide)
      rw [e, Option.bind_some, if_neg (by exact Bool.false_ne_true), if_pos (by rfl), if_pos (g _ (by decide)), if_pos (f _ _ (by decide) h1)]; rfl
    · have e : event_one n 2 ([[109, 97, 107, 101, 45, 110, 101, 116], [109, 97, 107, 101, 45, 118, 111, 108], [100, 114, 111, 112, 45, 110, 101, 116], [100, 114, 111, 112, 45, 118, 111, 108], [109, 97, 107, 101], [115, 116, 97, 114, 116], [115, 116, 111, 112], [100, 114, 111, 112]] : List BS) = some MV := evOne n 1 _ _ rfl (by decide)
      rw [e, Option.bind_some, if_neg (by exact Bool.false_ne_true), if_pos (by rfl), if_pos (g _ (by decide)), if_pos (f _ _ (by decide) h1)]; rfl
    · have e : event_one n 3 ([[109, 97, 107, 101, 45, 110, 101, 116], [109, 97, 107, 101, 45, 118, 111, 108], [100, 114, 111, 112, 45, 110, 101, 116], [100, 114, 111, 112, 45, 118, 111, 108], [109, 97, 107, 101], [115, 116, 97, 114, 116], [115, 116, 111, 112], [100, 114, 111, 112]] : List BS) = some DN := evOne n 2 _ _ rfl (by decide)
      rw [e, Option.bind_some, if_neg (by exact Bool.false_ne_true), if_pos (by rfl), if_pos (g _ (by decide)), if_pos (f _ _ (by decide) h1)]; rfl
    · have e : event_one n 4 ([[109, 97, 107, 101, 45, 110, 101, 116], [109, 97, 107, 101, 45, 118, 111, 108], [100, 114, 111, 112, 45, 110, 101, 116], [100, 114, 111, 112, 45, 118, 111, 108], [109, 97, 107, 101], [115, 116, 97, 114, 116], [115, 116, 111, 112], [100, 114, 111, 112]] : List BS) = some DV := evOne n 3 _ _ rfl (by decide)
      rw [e, Option.bind_some, if_neg (by exact Bool.false_ne_true), if_pos (by rfl), if_pos (g _ (by decide)), if_pos (f _ _ (by decide) h1)]; rfl
    · have e : event_one n 5 ([[109, 97, 107, 101, 45, 110, 101, 116], [109, 97, 107, 101, 45, 118, 111, 108], [100, 114, 111, 112, 45, 110, 101, 116], [100, 114, 111, 112, 45, 118, 111, 108], [109, 97, 107, 101], [115, 116, 97, 114, 116], [115, 116, 111, 112], [100, 114, 111, 112]] : List BS) = some [109, 97, 107, 101] := evOne n 4 _ _ rfl (by decide)
      rw [e, Option.bind_some, if_neg (by exact Bool.false_ne_true), if_neg (by exact Bool.false_ne_true), if_pos (by rfl), if_pos (g _ (by decide)), if_pos (f _ _ (by decide) h2)]; rfl
    · have e : event_one n 6 ([[109, 97, 107, 101, 45, 110, 101, 116], [109, 97, 107, 101, 45, 118, 111, 108], [100, 114, 111, 112, 45, 110, 101, 116], [100, 114, 111, 112, 45, 118, 111, 108], [109, 97, 107, 101], [115, 116, 97, 114, 116], [115, 116, 111, 112], [100, 114, 111, 112]] : List BS) = some [115, 116, 97, 114, 116] := evOne n 5 _ _ rfl (by decide)
      rw [e, Option.bind_some, if_neg (by exact Bool.false_ne_true), if_neg (by exact Bool.false_ne_true), if_neg (by exact Bool.false_ne_true), if_pos (g _ (by decide)), dtextI_eq n id hi.1 hi.2 hn, Option.bind_some, if_pos (f _ _ (by decide) (by omega))]; rfl
    · have e : event_one n 7 ([[109, 97, 107, 101, 45, 110, 101, 116], [109, 97, 107, 101, 45, 118, 111, 108], [100, 114, 111, 112, 45, 110, 101, 116], [100, 114, 111, 112, 45, 118, 111, 108], [109, 97, 107, 101], [115, 116, 97, 114, 116], [115, 116, 111, 112], [100, 114, 111, 112]] : List BS) = some [115, 116, 111, 112] := evOne n 6 _ _ rfl (by decide)
      rw [e, Option.bind_some, if_neg (by exact Bool.false_ne_true), if_neg (by exact Bool.false_ne_true), if_neg (by exact Bool.false_ne_true), if_pos (g _ (by decide)), dtextI_eq n id hi.1 hi.2 hn, Option.bind_some, if_pos (f _ _ (by decide) (by omega))]; rfl
    · have e : event_one n 8 ([[109, 97, 107, 101, 45, 110, 101, 116], [109, 97, 107, 101, 45, 118, 111, 108], [100, 114, 111, 112, 45, 110, 101, 116], [100, 114, 111, 112, 45, 118, 111, 108], [109, 97, 107, 101], [115, 116, 97, 114, 116], [115, 116, 111, 112], [100, 114, 111, 112]] : List BS) = some [100, 114, 111, 112] := evOne n 7 _ _ rfl (by decide)
      rw [e, Option.bind_some, if_neg (by exact Bool.false_ne_true), if_neg (by exact Bool.false_ne_true), if_neg (by exact Bool.false_ne_true), if_pos (g _ (by decide)), dtextI_eq n id hi.1 hi.2 hn, Option.bind_some, if_pos (f _ _ (by decide) (by omega))]; rfl
  · have hb : (bif (decide (k < 1)) then true else (decide (k > ((8 : Nat) : Int)))) = true := by
      by_cases h1 : k < 1
      · rw [decide_eq_true h1]; rfl
      · rw [decide_eq_false h1, cond_false]; exact decide_eq_true (by omega)
    unfold event_one
    rw [if_pos (by exact hb), if_neg (by omega), if_neg (by omega), if_neg (by omega), if_neg (by omega), if_neg (by omega), if_neg (by omega), if_neg (by omega), if_neg (by omega)]
    rfl
theorem callT_len (c : Cl) (h1 : c.f_Name.length ≤ 40000) (h2 : c.f_Spec.f_Name.length ≤ 40000) : (callT c).length ≤ 40100 := by
  have ht := txI_len c.f_Id
  unfold callT
  repeat' split
  all_goals (simp only [List.length_append, List.length_cons, List.length_nil]; omega)
theorem callJ (c : Cl) : [99, 97, 108, 108, 32] ++ callT c ++ (if c.f_Kind = 1 ∨ c.f_Kind = 2 then [32] ++ c.f_Spec.f_Project else []) = jw ([99, 97, 108, 108] :: callW c) := by
  unfold callT callW
  by_cases h1 : c.f_Kind = 1
  · simp [h1, jw, tl]
  by_cases h2 : c.f_Kind = 2
  · simp [h2, jw, tl]
  rw [if_neg h1, if_neg h1, if_neg h2, if_neg h2, if_neg (by omega : ¬ (c.f_Kind = 1 ∨ c.f_Kind = 2))]
  by_cases h3 : c.f_Kind = 3
  · simp [h3, jw, tl]
  by_cases h4 : c.f_Kind = 4
  · simp [h4, jw, tl]
  by_cases h5 : c.f_Kind = 5
  · simp [h5, jw, tl]
  by_cases h6 : c.f_Kind = 6
  · simp [h6, jw, tl]
  by_cases h7 : c.f_Kind = 7
  · simp [h7, jw, tl]
  by_cases h8 : c.f_Kind = 8
  · simp [h8, jw, tl]
  simp [h3, h4, h5, h6, h7, h8, jw, tl]
theorem write_eq (n : Nat) (x : St) (h : Bd x) (hn : 100 ≤ n) : script_write n x = some (wr x) := by
  have hN := txI_len x.f_N
  have hM := txI_len x.f_M
  unfold script_write wr wds
  rw [dtextI_eq n _ h.n.1 h.n.2 hn, dtextI_eq n _ h.m.1 h.m.2 hn, Option.bind_some, Option.bind_some]
  by_cases k2 : x.f_Kind = 2
  · rw [if_pos (beq_iff_eq.2 k2), if_pos k2]; rfl
  rw [if_neg (fun e => k2 (beq_iff_eq.1 e)), if_neg k2]
  by_cases k8 : x.f_Kind = 8
  · rw [if_pos (beq_iff_eq.2 k8), if_pos k8]; rfl
  rw [if_neg (fun e => k8 (beq_iff_eq.1 e)), if_neg k8]
  by_cases k3 : x.f_Kind = 3
  · rw [if_pos (beq_iff_eq.2 k3), if_pos k3, if_pos (str_fits (by simp; omega))]; simp [jw, tl]
  rw [if_neg (fun e => k3 (beq_iff_eq.1 e)), if_neg k3]
  by_cases k5 : x.f_Kind = 5
  · rw [if_pos (beq_iff_eq.2 k5), if_pos k5, if_pos (str_fits (by simp; omega))]; simp [jw, tl]
  rw [if_neg (fun e => k5 (beq_iff_eq.1 e)), if_neg k5]
  by_cases k6 : x.f_Kind = 6
  · rw [if_pos (beq_iff_eq.2 k6), if_pos k6, if_pos (str_fits (by simp; omega))]; simp [jw, tl]
  rw [if_neg (fun e => k6 (beq_iff_eq.1 e)), if_neg k6]
  by_cases k4 : x.f_Kind = 4
  · rw [if_pos (beq_iff_eq.2 k4), if_pos k4, if_pos (str_fits (by simp; omega)), if_pos (str_fits (by simp; omega)), if_pos (str_fits (by simp; omega))]; simp [jw, tl]
  rw [if_neg (fun e => k4 (beq_iff_eq.1 e)), if_neg k4]
  by_cases k7 : x.f_Kind = 7
  · rw [if_pos (beq_iff_eq.2 k7), if_pos k7, if_pos (str_fits (by simp; omega)), if_pos (str_fits (by simp; omega)), if_pos (str_fits (by simp; omega))]; simp [jw, tl]
  rw [if_neg (fun e => k7 (beq_iff_eq.1 e)), if_neg k7]
  by_cases k9 : x.f_Kind = 9
  · have hc := callT_len x.f_Call h.nm h.sn
    have hp := h.pj
    rw [if_pos (beq_iff_eq.2 k9), if_pos k9, eCall n _ h.i h.nm h.sn hn, Option.bind_some, if_pos (str_fits (by simp; omega)), ← callJ]
    unfold script_write_j1
    by_cases hk : x.f_Call.f_Kind = 1 ∨ x.f_Call.f_Kind = 2
    · have hb : (bif (x.f_Call.f_Kind == 1) then true else (x.f_Call.f_Kind == 2)) = true := by
        rcases hk with e | e <;> rw [e] <;> rfl
      rw [hb, if_pos rfl, if_pos (str_fits (by simp; omega)), if_pos (str_fits (by simp; omega)), if_pos hk]; rfl
    · have hb : (bif (x.f_Call.f_Kind == 1) then true else (x.f_Call.f_Kind == 2)) = false := by
        simp only [not_or] at hk
        have e1 : (x.f_Call.f_Kind == 1) = false := by simpa using hk.1
        have e2 : (x.f_Call.f_Kind == 2) = false := by simpa using hk.2
        rw [e1, e2]; rfl
      rw [hb, if_neg Bool.false_ne_true, if_neg hk, List.append_nil]; rfl
  · rw [if_neg (fun e => k9 (beq_iff_eq.1 e)), if_neg k9, eCmdW, Option.bind_some]
    have hl := h.sl
    have o1 := optW_len [45, 110] x.f_Command.f_Count
    have o2 := flgW_len [45, 111] x.f_Command.f_Orphans
    have o3 := flgW_len [45, 118] x.f_Command.f_Volumes
    have o4 := optW_len [45, 116] x.f_Command.f_Timeout
    have o5 := optW_len [45, 114] x.f_Command.f_Retries
    rw [if_pos (capW (by simp; omega)), one_eq n _ _ _ h.c (by simp; omega) hn, Option.bind_some, wj2_eq n _ _ _ (by simp; omega), Option.bind_some, wj3_eq n _ _ _ (by simp; omega), Option.bind_some,
      one_eq n _ _ _ h.t (by simp; omega) hn, Option.bind_some, one_eq n _ _ _ h.r (by simp; omega) hn, Option.bind_some]
    have hwl : (cmdW x.f_Command.f_Kind).length ≤ 10 := by
      unfold cmdW
      split
      · rename_i hk
        have : x.f_Command.f_Kind = 1 ∨ x.f_Command.f_Kind = 2 ∨ x.f_Command.f_Kind = 3 ∨ x.f_Command.f_Kind = 4 ∨ x.f_Command.f_Kind = 5 ∨ x.f_Command.f_Kind = 6 := by omega
        rcases this with e | e | e | e | e | e <;> rw [e] <;> decide
      · exact Nat.zero_le _
    have hop : ∀ (a : BS) (v : Int), a.length ≤ 10 → ∀ w ∈ optW a v, w.length ≤ 10000 := by
      intro a v ha w hw
      have := txI_len v
      unfold optW at hw
      split at hw
      · cases hw
      · simp only [List.mem_cons, List.not_mem_nil, or_false] at hw
        rcases hw with rfl | rfl <;> omega
    have hfl : ∀ (a : BS) (v : Bool), a.length ≤ 10 → ∀ w ∈ flgW a v, w.length ≤ 10000 := by
      intro a v ha w hw
      unfold flgW at hw
      split at hw
      · simp only [List.mem_cons, List.not_mem_nil, or_false] at hw
        subst hw; omega
      · cases hw
    have hlist : ((((([cmdW x.f_Command.f_Kind, txI x.f_N] ++ x.f_Command.f_Services) ++ optW [45, 110] x.f_Command.f_Count) ++ flgW [45, 111] x.f_Command.f_Orphans) ++ flgW [45, 118] x.f_Command.f_Volumes) ++ optW [45, 116] x.f_Command.f_Timeout) ++ optW [45, 114] x.f_Command.f_Retries = cmdW x.f_Command.f_Kind :: txI x.f_N :: svW x := by
      simp [svW]
    rw [hlist]
    have hsv : (svW x).length ≤ 6000 := by unfold svW; simp; omega
    have hall : ∀ w ∈ cmdW x.f_Command.f_Kind :: txI x.f_N :: svW x, w.length + ([32] : BS).length ≤ 20000 := by
      intro w hw
      show w.length + 1 ≤ 20000
      rcases List.mem_cons.1 hw with rfl | hw
      · omega
      rcases List.mem_cons.1 hw with rfl | hw
      · omega
      have : w.length ≤ 10000 := by
        unfold svW at hw
        simp only [List.mem_append] at hw
        rcases hw with ((((hw | hw) | hw) | hw) | hw) | hw
        · exact h.s w hw
        · exact hop _ _ (by decide) w hw
        · exact hfl _ _ (by decide) w hw
        · exact hfl _ _ (by decide) w hw
        · exact hop _ _ (by decide) w hw
        · exact hop _ _ (by decide) w hw
      omega
    have hj := join_len [32] 20000 _ hall
    rw [if_pos (decide_eq_true ⟨by show _ ≤ 140737488355328; simp; omega, by show _ ≤ 140737488355328; simp only [List.length_cons] at hj; omega⟩), join_jw]
end Go.Proofs.YtjjlpomfnfipbaaDoor.M
