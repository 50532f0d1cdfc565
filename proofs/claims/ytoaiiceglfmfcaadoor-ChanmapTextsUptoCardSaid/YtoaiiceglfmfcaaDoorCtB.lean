/- chanmap: Check and Frequency of the code and of the reference. -/
import Derived.Test.YtoaiiceglfmfcaaDoorCtA
import Derived.Test.YtoaiiceglfmfcaaDoorRefA
import Derived.IntWalk
namespace Go.Proofs.YtoaiiceglfmfcaaDoor
open Go.RowKit

theorem high_mask (i : Nat) : (18446743936270598144 : Nat).testBit i = (decide (37 ≤ i) && decide (i - 37 < 27)) := by
  rw [show (18446743936270598144 : Nat) = 2 ^ 37 * (2 ^ 27 - 1) by decide, Nat.testBit_two_pow_mul, Nat.testBit_two_pow_sub_one]
theorem high_zero (m : Nat) (h : m < 137438953472) : m &&& 18446743936270598144 = 0 := by
  apply Nat.eq_of_testBit_eq
  intro i
  rw [Nat.testBit_and, high_mask, Nat.zero_testBit]
  by_cases hi : 37 ≤ i
  · rw [Nat.testBit_lt_two_pow (Nat.lt_of_lt_of_le (show m < 2 ^ 37 from h) (Nat.pow_le_pow_right (by decide) hi)), Bool.false_and]
  · simp [hi]
theorem high_pos (m : Nat) (hm : m < 18446744073709551616) (h : 137438953472 ≤ m) : m &&& 18446743936270598144 ≠ 0 := by
  intro e
  obtain ⟨i, hi, hb⟩ := Nat.exists_ge_and_testBit_of_ge_two_pow (show m ≥ 2 ^ 37 from h)
  have hlt : i < 64 := by
    rcases Nat.lt_or_ge i 64 with h' | h'
    · exact h'
    · rw [Nat.testBit_lt_two_pow (Nat.lt_of_lt_of_le (show m < 2 ^ 64 from hm) (Nat.pow_le_pow_right (by decide) h'))] at hb; cases hb
  have h2 := congrArg (fun x => Nat.testBit x i) e
  simp only [Nat.testBit_and, hb, high_mask, Nat.zero_testBit, Bool.true_and, Bool.and_eq_false_imp, decide_eq_true_eq, decide_eq_false_iff_not] at h2
  exact h2 hi (by omega)
set_option maxRecDepth 100000 in
set_option maxHeartbeats 1000000 in
theorem check_any (m : Nat) (hm : m < 18446744073709551616) (w : World) :
    Calls Tryd.prog 12 #[.int .u64 m] w fun e w' => e = .returned (.int .i64 (chk m)) ∧ w = w' := by
  have e := u64_andNot_nat m 137438953471 hm (by decide)
  rw [show 18446744073709551615 - 137438953471 = 18446743936270598144 by decide] at e
  have e' : bits .andNot .u64 (m : Int) 137438953471 = ((m &&& 18446743936270598144 : Nat) : Int) := e
  unfold chk
  by_cases h : 137438953472 ≤ m
  · rw [if_pos h]
    have hp := high_pos m hm h
    obtain ⟨X, hX⟩ : ∃ X, m &&& 18446743936270598144 = X := ⟨_, rfl⟩
    rw [hX] at e' hp
    have g1 : ((X : Int) != 0) = true := by simp; omega
    have E' := Lib.hid e'
    clear e hX h
    go_enter Tryd.func12, Tryd.ntmps12
    go_wp2
    go_ret
    exact ⟨rfl, rfl⟩
  · rw [if_neg h]
    rw [high_zero m (by omega)] at e'
    clear e
    obtain ⟨p, hp⟩ : ∃ p, pop m 37 = p := ⟨_, rfl⟩
    have hc := fun W => count_any m hm W
    simp only [hp] at hc
    rw [hp]
    have HC := Lib.hid hc
    clear hc hp
    by_cases h2 : p < 2
    · rw [if_pos h2]
      go_enter Tryd.func12, Tryd.ntmps12
      go_wp2_with (go_at_call 16; refine (HC.out _).mono ?_; rintro e w' ⟨rfl, rfl⟩)
      go_ret
      exact ⟨rfl, rfl⟩
    · rw [if_neg h2]
      go_enter Tryd.func12, Tryd.ntmps12
      go_wp2_with (go_at_call 16; refine (HC.out _).mono ?_; rintro e w' ⟨rfl, rfl⟩)
      go_ret
      exact ⟨rfl, rfl⟩
set_option maxRecDepth 100000 in
set_option maxHeartbeats 1000000 in
theorem rcheck_any (m : Nat) (hm : m < 18446744073709551616) (w : World) :
    Calls Tryd.prog 13 #[.int .u64 m] w fun e w' => e = .returned (.int .i64 (chk m)) ∧ Below w.heap.size w w' := by
  obtain ⟨X, hX, hpw⟩ : ∃ X : Nat, X = 137438953472 ∧ ∀ W, Calls Tryd.prog 36 #[.int .i64 (37 : Int)] W fun e w' => e = .returned (.int .u64 (X : Int)) ∧ W = w' :=
    ⟨2 ^ 37, by decide, fun W => pow_nat 37 (by decide) W⟩
  have HP := Lib.hid hpw
  clear hpw
  unfold chk
  rw [← hX]
  clear hX
  by_cases h : X ≤ m
  · rw [if_pos h]
    go_enter Tryd.func13, Tryd.ntmps13
    go_wp2_with (go_at_call 36; refine (HP.out _).mono ?_; rintro e w' ⟨rfl, rfl⟩)
    go_ret
    exact ⟨rfl, Below.refl _ _⟩
  · rw [if_neg h]
    obtain ⟨p, hp⟩ : ∃ p, pop m 37 = p := ⟨_, rfl⟩
    have hc := fun W => rcount_any m hm W
    simp only [hp] at hc
    rw [hp]
    have HC := Lib.hid hc
    clear hc hp
    by_cases h2 : p < 2
    · rw [if_pos h2]
      go_enter Tryd.func13, Tryd.ntmps13
      go_wp2_with (first | (go_at_call 36; refine (HP.out _).mono ?_; rintro e w' ⟨rfl, rfl⟩) | (go_at_call 17; refine (HC.out _).mono ?_; rintro e w' ⟨rfl, hB⟩))
      go_ret
      exact ⟨rfl, by assumption⟩
    · rw [if_neg h2]
      go_enter Tryd.func13, Tryd.ntmps13
      go_wp2_with (first | (go_at_call 36; refine (HP.out _).mono ?_; rintro e w' ⟨rfl, rfl⟩) | (go_at_call 17; refine (HC.out _).mono ?_; rintro e w' ⟨rfl, hB⟩))
      go_ret
      exact ⟨rfl, by assumption⟩
/-- the frequency of a channel -/
def freq (c : Int) : Int := if c < 0 ∨ 40 ≤ c then 0 else if c ≤ 10 then 2404 + 2 * c else if c < 37 then 2406 + 2 * c else if c = 37 then 2402 else if c = 38 then 2426 else 2480
set_option maxRecDepth 100000 in
set_option maxHeartbeats 1000000 in
theorem freq_any (c : Int) (w : World) :
    Calls Tryd.prog 25 #[.int .i64 c] w fun e w' => e = .returned (.int .i64 (freq c)) ∧ w = w' := by
  unfold freq
  by_cases h1 : c < 0 ∨ 40 ≤ c
  · rw [if_pos h1]
    rcases h1 with h | h
    · go_enter Tryd.func25, Tryd.ntmps25
      go_wp2
      go_ret
      exact ⟨rfl, rfl⟩
    · have h0 : 0 ≤ c := by omega
      go_enter Tryd.func25, Tryd.ntmps25
      go_wp2
      go_ret
      exact ⟨rfl, rfl⟩
  · rw [if_neg h1]
    obtain ⟨h0, h40⟩ : 0 ≤ c ∧ c < 40 := by omega
    clear h1
    by_cases h2 : c ≤ 10
    · rw [if_pos h2]
      go_enter Tryd.func25, Tryd.ntmps25
      go_wp2
      go_ret
      exact ⟨rfl, rfl⟩
    · rw [if_neg h2]
      by_cases h3 : c < 37
      · rw [if_pos h3]
        go_enter Tryd.func25, Tryd.ntmps25
        go_wp2
        go_ret
        exact ⟨rfl, rfl⟩
      · rw [if_neg h3]
        obtain rfl | rfl | rfl : c = 37 ∨ c = 38 ∨ c = 39 := by omega
        all_goals
          go_enter Tryd.func25, Tryd.ntmps25
          go_wp2
          go_ret
          exact ⟨rfl, rfl⟩
set_option maxRecDepth 100000 in
set_option maxHeartbeats 1000000 in
theorem rfreq_any (c : Int) (w : World) :
    Calls Tryd.prog 26 #[.int .i64 c] w fun e w' => e = .returned (.int .i64 (freq c)) ∧ w = w' := by
  unfold freq
  by_cases h1 : c < 0 ∨ 40 ≤ c
  · rw [if_pos h1]
    rcases h1 with h | h
    · have g1 : (c == 37) = false := by simp; omega
      have g2 : (c == 38) = false := by simp; omega
      have g3 : (c == 39) = false := by simp; omega
      go_enter Tryd.func26, Tryd.ntmps26
      go_wp2
      go_ret
      exact ⟨rfl, rfl⟩
    · have h0 : 0 ≤ c := by omega
      have g1 : (c == 37) = false := by simp; omega
      have g2 : (c == 38) = false := by simp; omega
      have g3 : (c == 39) = false := by simp; omega
      go_enter Tryd.func26, Tryd.ntmps26
      go_wp2
      go_ret
      exact ⟨rfl, rfl⟩
  · rw [if_neg h1]
    obtain ⟨h0, h40⟩ : 0 ≤ c ∧ c < 40 := by omega
    clear h1
    by_cases h2 : c ≤ 10
    · rw [if_pos h2]
      go_enter Tryd.func26, Tryd.ntmps26
      go_wp2
      go_ret
      exact ⟨rfl, rfl⟩
    · rw [if_neg h2]
      by_cases h3 : c < 37
      · rw [if_pos h3]
        go_enter Tryd.func26, Tryd.ntmps26
        go_wp2
        go_ret
        exact ⟨rfl, rfl⟩
      · rw [if_neg h3]
        obtain rfl | rfl | rfl : c = 37 ∨ c = 38 ∨ c = 39 := by omega
        all_goals
          go_enter Tryd.func26, Tryd.ntmps26
          go_wp2
          go_ret
          exact ⟨rfl, rfl⟩
end Go.Proofs.YtoaiiceglfmfcaaDoor
