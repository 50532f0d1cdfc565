/- attpdu: a field that is not used is zero. -/
import Derived.Test.YthnffdlnhfhabaaAtK
namespace Go.Proofs.Ythnffdlnhfhabaa
open Go.RowKit

/-- a field that is not used is zero, where there is no error -/
theorem anyC_zero (u : List Nat) (z : Nat → Bool) : ∀ f, f ≤ 10 → anyC u z f = false → ∀ j, 10 - f ≤ j → j < 10 → u.contains (le j) = false → z j = true
  | 0, _, _, j, h1, h2, _ => by omega
  | f+1, hf, h, j, h1, h2, hc => by
    rw [anyC, Bool.or_eq_false_iff] at h
    by_cases hj : j = 9 - f
    · subst hj
      have := h.1
      rw [hc] at this
      simpa using this
    · exact anyC_zero u z f (by omega) h.2 j (by omega) h2 hc
theorem chkP_unused (ki ak : Int) (ha la hi lo : Nat) (of mt co : Int) (cm : Bool) (n m : Nat) (its : List It) (u : List Nat) (hk : fldC ki = some u) (h : chkP ki ak ha la hi lo of mt co cm n m its = 0) (j : Nat) (hj : j < 10) (hc : u.contains (le j) = false) : zB ak ha la hi lo of mt co cm n m j = true := by
  unfold chkP at h
  rw [hk] at h
  simp only at h
  by_cases ha' : anyC u (zB ak ha la hi lo of mt co cm n m) 10 = true
  · rw [if_pos ha'] at h; cases h
  · exact anyC_zero u _ 10 (Nat.le_refl _) (by simpa using ha') j (by omega) hj hc
theorem chkP_list (ki ak : Int) (ha la hi lo : Nat) (of mt co : Int) (cm : Bool) (n m : Nat) (its : List It) (u : List Nat) (hk : fldC ki = some u) (h : chkP ki ak ha la hi lo of mt co cm n m its = 0) (hu : u.contains 73 = true) : chkL ki its = 0 := by
  unfold chkP at h
  rw [hk] at h
  simp only at h
  split at h
  · cases h
  · exact errC_zero u _ 10 (Nat.le_refl _) h 9 (by omega) (by omega) hu
end Go.Proofs.Ythnffdlnhfhabaa
