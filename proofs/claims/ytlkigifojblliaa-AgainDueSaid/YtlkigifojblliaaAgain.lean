import Derived.Test.YtlkigifojblliaaProg
import Derived.WalkKit
import Derived.WalkLawsBesides
import Derived.WalkSpells
import Derived.Lib.Hide
namespace Go.Proofs.Ytlkigifojblliaa
open Go.RowKit

def due (restart tries code done : Int) (byHand : Bool) : Bool :=
  !byHand && ((restart == 1 || restart == 3) || (restart == 2 && (code != 0 && (tries == 0 || decide (done < tries)))))

theorem due_any (restart tries code done : Int) (byHand : Bool) (w : World) :
    Calls Try.prog 8 #[.int .i64 restart, .int .i64 tries, .int .i64 code, .int .i64 done, .bool byHand] w fun e w' => e = .returned (.bool (due restart tries code done byHand)) ∧ w = w' := by
  go_enter Try.func8, Try.ntmps8
  go_wp2
  all_goals (go_ret; refine ⟨?_, rfl⟩; unfold due; simp_all [bne])

theorem rdue_any (restart tries code done : Int) (byHand : Bool) (w : World) :
    Calls Try.prog 9 #[.int .i64 restart, .int .i64 tries, .int .i64 code, .int .i64 done, .bool byHand] w fun e w' => e = .returned (.bool (due restart tries code done byHand)) ∧ w = w' := by
  go_enter Try.func9, Try.ntmps9
  go_wp2
  all_goals (go_ret; refine ⟨?_, rfl⟩; unfold due; simp_all [bne])

def stays (restart code : Int) : Bool := !due restart 0 code 0 false
theorem stays_any (restart code : Int) (w : World) :
    Calls Try.prog 10 #[.int .i64 restart, .int .i64 code] w fun e w' => e = .returned (.bool (stays restart code)) ∧ w = w' := by
  go_enter Try.func10, Try.ntmps10
  go_wp2_with (go_at_call 8; refine (due_any _ _ _ _ _ _).mono ?_; rintro e w' ⟨rfl, rfl⟩)
  go_ret
  exact ⟨rfl, rfl⟩

def wait (n : Int) : Int := if n < 1 then 0 else min (100 * 2 ^ (min (n - 1) 20).toNat) 60000

theorem shl_eq (k : Nat) (h : k ≤ 20) : wrap64 (IntKind.u64.wrap (100 * 2 ^ k)) = 100 * 2 ^ k := by
  have : ∀ j : Fin 21, wrap64 (IntKind.u64.wrap (100 * 2 ^ j.val)) = 100 * 2 ^ j.val := by decide +kernel
  exact this ⟨k, by omega⟩

theorem wait_big (n : Int) (h : 10 < n) : wait n = 60000 := by
  unfold wait
  rw [if_neg (by omega)]
  have h1 : (100 : Int) * 2 ^ (10 + ((min (n - 1) 20).toNat - 10)) ≥ 60000 := by
    rw [Int.pow_add]
    have : (0 : Int) < 2 ^ ((min (n - 1) 20).toNat - 10) := Int.pow_pos (by decide)
    omega
  rw [show 10 + ((min (n - 1) 20).toNat - 10) = (min (n - 1) 20).toNat by omega] at h1
  omega

theorem wait_any (n : Int) (w : World) (hn : n ≤ 9223372036854775807) :
    Calls Try.prog 12 #[.int .i64 n] w fun e w' => e = .returned (.int .i64 (wait n)) ∧ w = w' := by
  by_cases h : n < 1
  · go_enter Try.func12, Try.ntmps12
    go_wp2
    go_ret
    exact ⟨by simp [wait, h], rfl⟩
  · by_cases h2 : n < 22
    · have e1 := shl_eq (n.toNat - 1) (by omega)
      have H1 := Lib.hid e1; clear e1
      have hw : wait n = min (100 * 2 ^ (n.toNat - 1)) 60000 := by
        unfold wait; rw [if_neg h, show (min (n - 1) 20).toNat = n.toNat - 1 by omega]
      have Hw := Lib.hid hw; clear hw
      go_enter Try.func12, Try.ntmps12
      go_wp2
      all_goals
        go_ret
        refine ⟨?_, rfl⟩
        rw [Hw.out]
        simp only [H1.out] at *
        simp; omega
    · have hw : wait n = 60000 := by
        unfold wait; rw [if_neg h, show (min (n - 1) 20).toNat = 20 by omega]; rfl
      have Hw := Lib.hid hw; clear hw
      go_enter Try.func12, Try.ntmps12
      go_wp2
      · go_ret
        exact ⟨by rw [Hw.out]; rfl, rfl⟩
      · exfalso
        have h1 : wrap64 (IntKind.u64.wrap (100 * 2 ^ (if 20 < n - 1 then 20 else n - 1).toNat)) ≤ 60000 := by assumption
        rw [if_pos (by omega)] at h1
        revert h1; decide +kernel

theorem rwait_any (n : Int) (w : World) (hn : n ≤ 9223372036854775807) :
    Calls Try.prog 13 #[.int .i64 n] w fun e w' => e = .returned (.int .i64 (wait n)) ∧ w = w' := by
  by_cases h : n < 1
  · go_enter Try.func13, Try.ntmps13
    go_wp2
    go_ret
    exact ⟨by simp [wait, h], rfl⟩
  · go_enter Try.func13, Try.ntmps13
    go_wp2
    go_loop [3, 4] (fun o i => ∃ k : Nat, k ≤ 10 ∧ (k : Int) + 1 ≤ n ∧ i = .int .i64 (k + 1) ∧ o = .int .i64 (100 * 2 ^ k)) (fun _ i => 11 - (intOf i).toNat)
    case atStart => exact ⟨0, by omega, by omega, rfl, rfl⟩
    case round =>
      obtain ⟨k, hk, hkn, rfl, rfl⟩ := hrel
      have hb : (100 : Int) * 2 ^ k ≤ 102400 := by
        have : ∀ j : Fin 11, (100 : Int) * 2 ^ j.val ≤ 102400 := by decide +kernel
        exact this ⟨k, by omega⟩
      have hb0 : (0 : Int) ≤ 100 * 2 ^ k := by
        have : ∀ j : Fin 11, (0 : Int) ≤ 100 * 2 ^ j.val := by decide +kernel
        exact this ⟨k, by omega⟩
      have hs : (100 : Int) * 2 ^ (k + 1) = 2 * (100 * 2 ^ k) := by rw [Int.pow_succ]; omega
      have hw : 60000 ≤ (100 : Int) * 2 ^ k ∨ n = k + 1 → wait n = min (100 * 2 ^ k) 60000 := by
        rintro (h1 | h1)
        · have h9 : 10 ≤ k := by
            have : ∀ j : Fin 10, ¬ 60000 ≤ (100 : Int) * 2 ^ j.val := by decide +kernel
            by_cases h8 : k < 10
            · exact absurd h1 (this ⟨k, h8⟩)
            · omega
          obtain rfl : k = 10 := by omega
          rw [wait_big n (by omega)]; rfl
        · unfold wait; rw [if_neg (by omega), show (min (n - 1) 20).toNat = k by omega]
      have hk9 : (100 : Int) * 2 ^ k < 60000 → k + 1 ≤ 10 := by
        intro h1
        by_cases h8 : k = 10
        · subst h8; exact absurd h1 (by decide +kernel)
        · omega
      generalize ho : (100 : Int) * 2 ^ k = o at *
      have Ho := Lib.hid ho; clear ho
      have Hs := Lib.hid hs; clear hs
      have Hw := Lib.hid hw; clear hw
      have Hk := Lib.hid hk9; clear hk9
      go_wp2
      · go_round
        case rel => exact ⟨k + 1, Hk.out (by assumption), by omega, by go_num, by rw [Hs.out]; go_num⟩
        case measure => have := Hk.out (by assumption); simp [intOf]; omega
      · go_ret
        exact ⟨by rw [Hw.out (by omega)]; simp; omega, rfl⟩
      · go_ret
        exact ⟨by rw [Hw.out (by omega)]; simp; omega, rfl⟩
      · go_ret
        exact ⟨by rw [Hw.out (by omega)]; simp; omega, rfl⟩
      · go_ret
        exact ⟨by rw [Hw.out (by omega)]; simp; omega, rfl⟩
theorem wait_bd (n : Int) : 0 ≤ wait n ∧ wait n ≤ 60000 := by
  unfold wait
  have : (0 : Int) < 2 ^ (min (n - 1) 20).toNat := Int.pow_pos (by decide)
  split <;> omega

def tot : Nat → Int
  | 0 => 0
  | k + 1 => tot k + wait (k + 1)
theorem tot_bd (k : Nat) : 0 ≤ tot k ∧ tot k ≤ 60000 * k := by
  induction k with
  | zero => simp [tot]
  | succ k ih => have := wait_bd (k + 1); unfold tot; omega

def total (n : Int) : Int := tot (min n.toNat 100)

theorem total_any (n : Int) (w : World) (hn : n ≤ 9223372036854775807) (hn0 : -9223372036854775808 ≤ n) :
    Calls Try.prog 14 #[.int .i64 n] w fun e w' => e = .returned (.int .i64 (total n)) ∧ w = w' := by
  have hm : ∃ m : Nat, m ≤ 100 ∧ m = min n.toNat 100 ∧ total n = tot m := ⟨_, by omega, rfl, rfl⟩
  obtain ⟨m, hm1, hm2, ht⟩ := hm
  have hm3 : (100 < n ∧ m = 100) ∨ (n ≤ 100 ∧ ((n ≤ 0 ∧ m = 0) ∨ n = m)) := by omega
  have Ht := Lib.hid ht; clear ht hm2
  go_enter Try.func14, Try.ntmps14
  go_wp2
  all_goals
    go_loop [3, 4, 7] (fun o _ i => ∃ k : Nat, k ≤ m ∧ i = .int .i64 k ∧ o = .int .i64 (tot k)) (fun _ _ i => 100 - (intOf i).toNat)
    case atStart => exact ⟨0, by omega, rfl, rfl⟩
    case round =>
      obtain ⟨k, hk, rfl, rfl⟩ := hrel
      have hb := tot_bd k
      have hb1 := wait_bd (k + 1)
      have hs : tot (k + 1) = tot k + wait (k + 1) := rfl
      have Hs := Lib.hid hs; clear hs
      go_wp2_with (go_at_call 12; refine (wait_any _ _ (by omega)).mono ?_; rintro e w' ⟨rfl, rfl⟩)
      · go_round
        case rel => exact ⟨k + 1, by omega, by go_num, by rw [Hs.out]⟩
        case measure => simp [intOf]; omega
      · obtain rfl : k = m := by omega
        go_ret
        exact ⟨by rw [Ht.out]; rfl, rfl⟩

theorem rtotal_any (n : Int) (w : World) (hn : n ≤ 9223372036854775807) (hn0 : -9223372036854775808 ≤ n) :
    Calls Try.prog 15 #[.int .i64 n] w fun e w' => e = .returned (.int .i64 (total n)) ∧ w = w' := by
  have hm : ∃ m : Nat, m ≤ 100 ∧ m = min n.toNat 100 ∧ total n = tot m := ⟨_, by omega, rfl, rfl⟩
  obtain ⟨m, hm1, hm2, ht⟩ := hm
  have hm3 : (100 < n ∧ m = 100) ∨ (n ≤ 100 ∧ ((n ≤ 0 ∧ m = 0) ∨ n = m)) := by omega
  have Ht := Lib.hid ht; clear ht hm2
  go_enter Try.func15, Try.ntmps15
  go_wp2
  go_loop [3, 4] (fun o i => ∃ k : Nat, k ≤ m ∧ i = .int .i64 (k + 1) ∧ o = .int .i64 (tot k)) (fun _ i => 101 - (intOf i).toNat)
  case atStart => exact ⟨0, by omega, rfl, rfl⟩
  case round =>
    obtain ⟨k, hk, rfl, rfl⟩ := hrel
    have hb := tot_bd k
    have hb1 := wait_bd (k + 1)
    have hs : tot (k + 1) = tot k + wait (k + 1) := rfl
    have Hs := Lib.hid hs; clear hs
    go_wp2_with (go_at_call 13; refine (rwait_any _ _ (by omega)).mono ?_; rintro e w' ⟨rfl, rfl⟩)
    · go_round
      case rel => exact ⟨k + 1, by omega, by go_num, by rw [Hs.out]⟩
      case measure => simp [intOf]; omega
    all_goals
      obtain rfl : k = m := by omega
      go_ret
      exact ⟨by rw [Ht.out]; rfl, rfl⟩

theorem awake_any (w : World) :
    Calls Try.prog 11 #[] w fun e w' => e = .returned (.bool true) ∧ w = w' := by
  have e1 : wait 1 = 100 := by decide +kernel
  have e2 : wait 10 = 51200 := by decide +kernel
  have e3 : wait 11 = 60000 := by decide +kernel
  have e4 : due 2 3 1 2 false = true := by decide +kernel
  have e5 : due 2 3 1 3 false = false := by decide +kernel
  go_enter Try.func11, Try.ntmps11
  go_wp2_with (first | (go_at_call 12; refine (wait_any _ _ (by omega)).mono ?_; rintro e w' ⟨rfl, rfl⟩) | (go_at_call 8; refine (due_any _ _ _ _ _ _).mono ?_; rintro e w' ⟨rfl, rfl⟩))
  go_ret
  exact ⟨rfl, rfl⟩

theorem awake_ret (w : World) : Calls Try.prog 11 #[] w fun e w' => e = .returned (.bool true) ∧ w = w' := awake_any w

theorem law_due (restart tries code done : Int) (byHand : Bool) (w : World) :
    Calls Try.prog 3 #[.int .i64 restart, .int .i64 tries, .int .i64 code, .int .i64 done, .bool byHand] w fun e w' => e = .returned (.bool true) ∧ w = w' := by
  have h1 : stays 1 code = false := by simp [stays, due]
  have h3 : stays 3 code = false := by simp [stays, due]
  have h2 : stays 2 code = (code == 0) := by simp [stays, due, bne]
  by_cases c1 : restart = 1
  · subst c1
    go_enter Try.func3, Try.ntmps3
    go_wp2_with (first | (go_at_call 8; refine (due_any _ _ _ _ _ _).mono ?_; rintro e w' ⟨rfl, rfl⟩) | (go_at_call 9; refine (rdue_any _ _ _ _ _ _).mono ?_; rintro e w' ⟨rfl, rfl⟩) | (go_at_call 10; refine (stays_any _ _ _).mono ?_; rintro e w' ⟨rfl, rfl⟩) | (go_at_call 11; refine (awake_any _).mono ?_; rintro e w' ⟨rfl, rfl⟩))
    go_ret
    exact ⟨rfl, rfl⟩
  by_cases c3 : restart = 3
  · subst c3
    go_enter Try.func3, Try.ntmps3
    go_wp2_with (first | (go_at_call 8; refine (due_any _ _ _ _ _ _).mono ?_; rintro e w' ⟨rfl, rfl⟩) | (go_at_call 9; refine (rdue_any _ _ _ _ _ _).mono ?_; rintro e w' ⟨rfl, rfl⟩) | (go_at_call 10; refine (stays_any _ _ _).mono ?_; rintro e w' ⟨rfl, rfl⟩) | (go_at_call 11; refine (awake_any _).mono ?_; rintro e w' ⟨rfl, rfl⟩))
    go_ret
    exact ⟨rfl, rfl⟩
  by_cases c2 : restart = 2
  · subst c2
    go_enter Try.func3, Try.ntmps3
    go_wp2_with (first | (go_at_call 8; refine (due_any _ _ _ _ _ _).mono ?_; rintro e w' ⟨rfl, rfl⟩) | (go_at_call 9; refine (rdue_any _ _ _ _ _ _).mono ?_; rintro e w' ⟨rfl, rfl⟩) | (go_at_call 10; refine (stays_any _ _ _).mono ?_; rintro e w' ⟨rfl, rfl⟩) | (go_at_call 11; refine (awake_any _).mono ?_; rintro e w' ⟨rfl, rfl⟩))
    go_ret
    exact ⟨rfl, rfl⟩
  · have h4 : stays restart code = true := by simp [stays, due, c1, c2, c3]
    have b1 : (restart != 1) = true := by simp [c1]
    have b2 : (restart != 2) = true := by simp [c2]
    have b3 : (restart != 3) = true := by simp [c3]
    go_enter Try.func3, Try.ntmps3
    go_wp2_with (first | (go_at_call 8; refine (due_any _ _ _ _ _ _).mono ?_; rintro e w' ⟨rfl, rfl⟩) | (go_at_call 9; refine (rdue_any _ _ _ _ _ _).mono ?_; rintro e w' ⟨rfl, rfl⟩) | (go_at_call 10; refine (stays_any _ _ _).mono ?_; rintro e w' ⟨rfl, rfl⟩) | (go_at_call 11; refine (awake_any _).mono ?_; rintro e w' ⟨rfl, rfl⟩))
    go_ret
    exact ⟨rfl, rfl⟩

theorem law_waits (n : Int) (w : World) (hn : n ≤ 9223372036854775807) (hn0 : -9223372036854775808 ≤ n) :
    Calls Try.prog 4 #[.int .i64 n] w fun e w' => e = .returned (.bool true) ∧ w = w' := by
  go_enter Try.func4, Try.ntmps4
  go_wp2_with (first | (go_at_call 12; refine (wait_any _ _ (by omega)).mono ?_; rintro e w' ⟨rfl, rfl⟩) | (go_at_call 13; refine (rwait_any _ _ (by omega)).mono ?_; rintro e w' ⟨rfl, rfl⟩) | (go_at_call 14; refine (total_any _ _ (by omega) (by omega)).mono ?_; rintro e w' ⟨rfl, rfl⟩) | (go_at_call 15; refine (rtotal_any _ _ (by omega) (by omega)).mono ?_; rintro e w' ⟨rfl, rfl⟩) | (go_at_call 11; refine (awake_any _).mono ?_; rintro e w' ⟨rfl, rfl⟩))
  go_ret
  exact ⟨rfl, rfl⟩
theorem due_hand (a b c d : Int) : due a b c d true = false := by simp [due]
theorem due_stays (a b c d : Int) (h : due a b c d false = true) : stays a c = false := by
  unfold stays; unfold due at *; revert h
  by_cases h1 : a = 1 <;> by_cases h3 : a = 3 <;> by_cases h2 : a = 2 <;> simp_all [bne]
theorem due_lim (b c d : Int) (h : due 2 b c d false = true) (hb : ¬ b = 0) : d < b := by
  unfold due at h; simp_all
theorem wait_mono (n : Int) (h : 1 ≤ n) : wait n ≤ wait (n + 1) ∧ wait (n + 1) ≤ 2 * wait n := by
  by_cases h2 : n < 11
  · have : ∀ j : Fin 11, 1 ≤ j.val → wait j.val ≤ wait (j.val + 1) ∧ wait (j.val + 1) ≤ 2 * wait j.val := by decide +kernel
    have h3 := this ⟨n.toNat, by omega⟩ (by simp; omega)
    simpa [show ((n.toNat : Nat) : Int) = n by omega] using h3
  · have := wait_big (n + 1) (by omega)
    by_cases h3 : n = 10
    · subst h3; decide +kernel
    · rw [wait_big n (by omega), this]; omega
theorem tot_mono (a b : Nat) (h : a ≤ b) : tot a ≤ tot b := by
  induction b with
  | zero => obtain rfl : a = 0 := by omega
            exact Int.le_refl _
  | succ b ih =>
    by_cases h2 : a = b + 1
    · subst h2; exact Int.le_refl _
    · have h5 := ih (by omega); have := wait_bd (b + 1); show tot a ≤ tot b + wait (b + 1); omega
theorem total_mono (n : Int) : total n ≤ total (n + 1) := tot_mono _ _ (by omega)

theorem law_grows (restart tries code done n : Int) (w : World) (hn : n ≤ 9223372036854775807) (hn0 : -9223372036854775808 ≤ n) :
    Calls Try.prog 5 #[.int .i64 restart, .int .i64 tries, .int .i64 code, .int .i64 done, .int .i64 n] w fun e w' => e = .returned (.bool true) ∧ w = w' := by
  have hh := due_hand restart tries code done
  have hc : n < 1 ∨ 200 < n ∨ (1 ≤ n ∧ n ≤ 200 ∧ wait n ≤ wait (n + 1) ∧ wait (n + 1) ≤ 2 * wait n ∧ wait (n + 1) ≤ 60000 ∧ 0 ≤ wait n ∧ wait n ≤ 60000 ∧ total n ≤ total (n + 1)) := by
    by_cases h1 : n < 1
    · exact .inl h1
    · have := wait_mono n (by omega); have := wait_bd n; have := wait_bd (n + 1); have := total_mono n; omega
  cases hd : due restart tries code done false
  · rcases hc with hc | hc | ⟨hc1, hc2, hc3, hc4, hc5, hc6, hc7, hc8⟩
    · go_enter Try.func5, Try.ntmps5
      go_wp2_with (first | (go_at_call 12; refine (wait_any _ _ (by omega)).mono ?_; rintro e w' ⟨rfl, rfl⟩) | (go_at_call 14; refine (total_any _ _ (by omega) (by omega)).mono ?_; rintro e w' ⟨rfl, rfl⟩) | (go_at_call 8; refine (due_any _ _ _ _ _ _).mono ?_; rintro e w' ⟨rfl, rfl⟩) | (go_at_call 9; refine (rdue_any _ _ _ _ _ _).mono ?_; rintro e w' ⟨rfl, rfl⟩) | (go_at_call 10; refine (stays_any _ _ _).mono ?_; rintro e w' ⟨rfl, rfl⟩) | (go_at_call 11; refine (awake_any _).mono ?_; rintro e w' ⟨rfl, rfl⟩))
      go_ret
      exact ⟨rfl, rfl⟩
    · go_enter Try.func5, Try.ntmps5
      go_wp2_with (first | (go_at_call 12; refine (wait_any _ _ (by omega)).mono ?_; rintro e w' ⟨rfl, rfl⟩) | (go_at_call 14; refine (total_any _ _ (by omega) (by omega)).mono ?_; rintro e w' ⟨rfl, rfl⟩) | (go_at_call 8; refine (due_any _ _ _ _ _ _).mono ?_; rintro e w' ⟨rfl, rfl⟩) | (go_at_call 9; refine (rdue_any _ _ _ _ _ _).mono ?_; rintro e w' ⟨rfl, rfl⟩) | (go_at_call 10; refine (stays_any _ _ _).mono ?_; rintro e w' ⟨rfl, rfl⟩) | (go_at_call 11; refine (awake_any _).mono ?_; rintro e w' ⟨rfl, rfl⟩))
      go_ret
      exact ⟨rfl, rfl⟩
    · go_enter Try.func5, Try.ntmps5
      go_wp2_with (first | (go_at_call 12; refine (wait_any _ _ (by omega)).mono ?_; rintro e w' ⟨rfl, rfl⟩) | (go_at_call 14; refine (total_any _ _ (by omega) (by omega)).mono ?_; rintro e w' ⟨rfl, rfl⟩) | (go_at_call 8; refine (due_any _ _ _ _ _ _).mono ?_; rintro e w' ⟨rfl, rfl⟩) | (go_at_call 9; refine (rdue_any _ _ _ _ _ _).mono ?_; rintro e w' ⟨rfl, rfl⟩) | (go_at_call 10; refine (stays_any _ _ _).mono ?_; rintro e w' ⟨rfl, rfl⟩) | (go_at_call 11; refine (awake_any _).mono ?_; rintro e w' ⟨rfl, rfl⟩))
      go_ret
      exact ⟨rfl, rfl⟩
  · have hs := due_stays _ _ _ _ hd
    by_cases h2 : restart = 2
    · subst h2
      by_cases ht : tries = 0
      · subst ht
        rcases hc with hc | hc | ⟨hc1, hc2, hc3, hc4, hc5, hc6, hc7, hc8⟩
        · go_enter Try.func5, Try.ntmps5
          go_wp2_with (first | (go_at_call 12; refine (wait_any _ _ (by omega)).mono ?_; rintro e w' ⟨rfl, rfl⟩) | (go_at_call 14; refine (total_any _ _ (by omega) (by omega)).mono ?_; rintro e w' ⟨rfl, rfl⟩) | (go_at_call 8; refine (due_any _ _ _ _ _ _).mono ?_; rintro e w' ⟨rfl, rfl⟩) | (go_at_call 9; refine (rdue_any _ _ _ _ _ _).mono ?_; rintro e w' ⟨rfl, rfl⟩) | (go_at_call 10; refine (stays_any _ _ _).mono ?_; rintro e w' ⟨rfl, rfl⟩) | (go_at_call 11; refine (awake_any _).mono ?_; rintro e w' ⟨rfl, rfl⟩))
          go_ret
          exact ⟨rfl, rfl⟩
        · go_enter Try.func5, Try.ntmps5
          go_wp2_with (first | (go_at_call 12; refine (wait_any _ _ (by omega)).mono ?_; rintro e w' ⟨rfl, rfl⟩) | (go_at_call 14; refine (total_any _ _ (by omega) (by omega)).mono ?_; rintro e w' ⟨rfl, rfl⟩) | (go_at_call 8; refine (due_any _ _ _ _ _ _).mono ?_; rintro e w' ⟨rfl, rfl⟩) | (go_at_call 9; refine (rdue_any _ _ _ _ _ _).mono ?_; rintro e w' ⟨rfl, rfl⟩) | (go_at_call 10; refine (stays_any _ _ _).mono ?_; rintro e w' ⟨rfl, rfl⟩) | (go_at_call 11; refine (awake_any _).mono ?_; rintro e w' ⟨rfl, rfl⟩))
          go_ret
          exact ⟨rfl, rfl⟩
        · go_enter Try.func5, Try.ntmps5
          go_wp2_with (first | (go_at_call 12; refine (wait_any _ _ (by omega)).mono ?_; rintro e w' ⟨rfl, rfl⟩) | (go_at_call 14; refine (total_any _ _ (by omega) (by omega)).mono ?_; rintro e w' ⟨rfl, rfl⟩) | (go_at_call 8; refine (due_any _ _ _ _ _ _).mono ?_; rintro e w' ⟨rfl, rfl⟩) | (go_at_call 9; refine (rdue_any _ _ _ _ _ _).mono ?_; rintro e w' ⟨rfl, rfl⟩) | (go_at_call 10; refine (stays_any _ _ _).mono ?_; rintro e w' ⟨rfl, rfl⟩) | (go_at_call 11; refine (awake_any _).mono ?_; rintro e w' ⟨rfl, rfl⟩))
          go_ret
          exact ⟨rfl, rfl⟩
      · have hl := due_lim _ _ _ hd ht
        have ht2 : (tries != 0) = true := by simp [ht]
        rcases hc with hc | hc | ⟨hc1, hc2, hc3, hc4, hc5, hc6, hc7, hc8⟩
        · go_enter Try.func5, Try.ntmps5
          go_wp2_with (first | (go_at_call 12; refine (wait_any _ _ (by omega)).mono ?_; rintro e w' ⟨rfl, rfl⟩) | (go_at_call 14; refine (total_any _ _ (by omega) (by omega)).mono ?_; rintro e w' ⟨rfl, rfl⟩) | (go_at_call 8; refine (due_any _ _ _ _ _ _).mono ?_; rintro e w' ⟨rfl, rfl⟩) | (go_at_call 9; refine (rdue_any _ _ _ _ _ _).mono ?_; rintro e w' ⟨rfl, rfl⟩) | (go_at_call 10; refine (stays_any _ _ _).mono ?_; rintro e w' ⟨rfl, rfl⟩) | (go_at_call 11; refine (awake_any _).mono ?_; rintro e w' ⟨rfl, rfl⟩))
          go_ret
          exact ⟨rfl, rfl⟩
        · go_enter Try.func5, Try.ntmps5
          go_wp2_with (first | (go_at_call 12; refine (wait_any _ _ (by omega)).mono ?_; rintro e w' ⟨rfl, rfl⟩) | (go_at_call 14; refine (total_any _ _ (by omega) (by omega)).mono ?_; rintro e w' ⟨rfl, rfl⟩) | (go_at_call 8; refine (due_any _ _ _ _ _ _).mono ?_; rintro e w' ⟨rfl, rfl⟩) | (go_at_call 9; refine (rdue_any _ _ _ _ _ _).mono ?_; rintro e w' ⟨rfl, rfl⟩) | (go_at_call 10; refine (stays_any _ _ _).mono ?_; rintro e w' ⟨rfl, rfl⟩) | (go_at_call 11; refine (awake_any _).mono ?_; rintro e w' ⟨rfl, rfl⟩))
          go_ret
          exact ⟨rfl, rfl⟩
        · go_enter Try.func5, Try.ntmps5
          go_wp2_with (first | (go_at_call 12; refine (wait_any _ _ (by omega)).mono ?_; rintro e w' ⟨rfl, rfl⟩) | (go_at_call 14; refine (total_any _ _ (by omega) (by omega)).mono ?_; rintro e w' ⟨rfl, rfl⟩) | (go_at_call 8; refine (due_any _ _ _ _ _ _).mono ?_; rintro e w' ⟨rfl, rfl⟩) | (go_at_call 9; refine (rdue_any _ _ _ _ _ _).mono ?_; rintro e w' ⟨rfl, rfl⟩) | (go_at_call 10; refine (stays_any _ _ _).mono ?_; rintro e w' ⟨rfl, rfl⟩) | (go_at_call 11; refine (awake_any _).mono ?_; rintro e w' ⟨rfl, rfl⟩))
          go_ret
          exact ⟨rfl, rfl⟩
    · have h22 : (restart == 2) = false := by simp [h2]
      rcases hc with hc | hc | ⟨hc1, hc2, hc3, hc4, hc5, hc6, hc7, hc8⟩
      · go_enter Try.func5, Try.ntmps5
        go_wp2_with (first | (go_at_call 12; refine (wait_any _ _ (by omega)).mono ?_; rintro e w' ⟨rfl, rfl⟩) | (go_at_call 14; refine (total_any _ _ (by omega) (by omega)).mono ?_; rintro e w' ⟨rfl, rfl⟩) | (go_at_call 8; refine (due_any _ _ _ _ _ _).mono ?_; rintro e w' ⟨rfl, rfl⟩) | (go_at_call 9; refine (rdue_any _ _ _ _ _ _).mono ?_; rintro e w' ⟨rfl, rfl⟩) | (go_at_call 10; refine (stays_any _ _ _).mono ?_; rintro e w' ⟨rfl, rfl⟩) | (go_at_call 11; refine (awake_any _).mono ?_; rintro e w' ⟨rfl, rfl⟩))
        go_ret
        exact ⟨rfl, rfl⟩
      · go_enter Try.func5, Try.ntmps5
        go_wp2_with (first | (go_at_call 12; refine (wait_any _ _ (by omega)).mono ?_; rintro e w' ⟨rfl, rfl⟩) | (go_at_call 14; refine (total_any _ _ (by omega) (by omega)).mono ?_; rintro e w' ⟨rfl, rfl⟩) | (go_at_call 8; refine (due_any _ _ _ _ _ _).mono ?_; rintro e w' ⟨rfl, rfl⟩) | (go_at_call 9; refine (rdue_any _ _ _ _ _ _).mono ?_; rintro e w' ⟨rfl, rfl⟩) | (go_at_call 10; refine (stays_any _ _ _).mono ?_; rintro e w' ⟨rfl, rfl⟩) | (go_at_call 11; refine (awake_any _).mono ?_; rintro e w' ⟨rfl, rfl⟩))
        go_ret
        exact ⟨rfl, rfl⟩
      · go_enter Try.func5, Try.ntmps5
        go_wp2_with (first | (go_at_call 12; refine (wait_any _ _ (by omega)).mono ?_; rintro e w' ⟨rfl, rfl⟩) | (go_at_call 14; refine (total_any _ _ (by omega) (by omega)).mono ?_; rintro e w' ⟨rfl, rfl⟩) | (go_at_call 8; refine (due_any _ _ _ _ _ _).mono ?_; rintro e w' ⟨rfl, rfl⟩) | (go_at_call 9; refine (rdue_any _ _ _ _ _ _).mono ?_; rintro e w' ⟨rfl, rfl⟩) | (go_at_call 10; refine (stays_any _ _ _).mono ?_; rintro e w' ⟨rfl, rfl⟩) | (go_at_call 11; refine (awake_any _).mono ?_; rintro e w' ⟨rfl, rfl⟩))
        go_ret
        exact ⟨rfl, rfl⟩

end Go.Proofs.Ytlkigifojblliaa
